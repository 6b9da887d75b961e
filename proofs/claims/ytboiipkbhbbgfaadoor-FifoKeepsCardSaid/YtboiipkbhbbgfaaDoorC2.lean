/- The walk of the reference's Clone. -/
import Derived.Test.YtboiipkbhbbgfaaDoorC1
namespace Go.Proofs.YtboiipkbhbbgfaaDoor
open Go.RowKit

theorem Blk.set5_other' {w : World} {g b : Nat} {e : TypeId} {cur : Array Value} (h : Blk w g e cur) (q v p vl vp : Value) (hne : b ≠ g) : Blk (set5 w b q v p vl vp) g e cur :=
  ((((h.set_other _ hne).set_other _ hne).set_other _ hne).set_other _ hne).set_other _ hne
/-- what Clone returns: rows of its own -/
def ClonePost (q v p : Int) (ls : List Lay) (ps : List Pst) (w : World) (e : Ending) (w' : World) : Prop :=
  ∃ gl cl gp cp kl kp, e = .returned (.agg #[.int .i64 q, .int .i64 v, .int .i64 p, sl gl ls.length cl, sl gp ps.length cp]) ∧ Below w.heap.size w w' ∧ LRow w' gl cl ls kl ∧ PRow w' gp cp ps kp ∧ gl ≠ gp ∧ w.heap.size ≤ gl ∧ w.heap.size ≤ gp

set_option maxRecDepth 100000 in
set_option maxHeartbeats 8000000 in
theorem clone_any (q v p : Int) (bl : Option Addr) (cl : Nat) (bp : Option Addr) (cp : Nat) (ls : List Lay) (ps : List Pst) (w : World)
    (hl : OwnL w 0 (.slice bl ls.length cl) ls) (hp : OwnP w 0 (.slice bp ps.length cp) ps) (hn : ls.length ≤ 900) (hnp : ps.length ≤ 900) :
    Calls Tryd.prog 20 #[.agg #[.int .i64 q, .int .i64 v, .int .i64 p, .slice bl ls.length cl, .slice bp ps.length cp]] w (ClonePost q v p ls ps w) := by
  obtain ⟨i0, hi0, hz0, hz1, hz2⟩ := info_parts Tryd.info44
  obtain ⟨i1, hi1, hy0, hy1, hy2⟩ := info_parts Tryd.info51
  have HL := Lib.hid hl; have HP := Lib.hid hp; clear hl hp
  go_enter Tryd.func20, Tryd.ntmps20
  go_upto_region 1 with fail
  have hA : Blk ((w.alloc (.cells #[.int .i64 q, .int .i64 v, .int .i64 p, .slice bl ls.length cl, .slice bp ps.length cp] 32)).alloc (.cells stkZ 32)) w.heap.size 32 #[.int .i64 q, .int .i64 v, .int .i64 p, .slice bl ls.length cl, .slice bp ps.length cp] := (Blk.new _ _ _).alloc _
  have hZ : Blk ((w.alloc (.cells #[.int .i64 q, .int .i64 v, .int .i64 p, .slice bl ls.length cl, .slice bp ps.length cp] 32)).alloc (.cells stkZ 32)) (w.heap.size + 1) 32 stkZ := Blk.new2 _ _ _ _
  have hb : Below w.heap.size w ((w.alloc (.cells #[.int .i64 q, .int .i64 v, .int .i64 p, .slice bl ls.length cl, .slice bp ps.length cp] 32)).alloc (.cells stkZ 32)) := ((Below.refl _ _).alloc (Nat.le_refl _) _).alloc (by simp) _
  have hs : ((w.alloc (.cells #[.int .i64 q, .int .i64 v, .int .i64 p, .slice bl ls.length cl, .slice bp ps.length cp] 32)).alloc (.cells stkZ 32)).heap.size = w.heap.size + 2 := by simp
  generalize (w.alloc (.cells #[.int .i64 q, .int .i64 v, .int .i64 p, .slice bl ls.length cl, .slice bp ps.length cp] 32)).alloc (.cells stkZ 32) = W at *
  generalize hb0 : w.heap.size = b0 at *
  have a0 : W.cell? ⟨b0, 0, none⟩ = some (.int .i64 q) := by rw [hA.cell]; rfl
  have a1 : W.cell? ⟨b0, 1, none⟩ = some (.int .i64 v) := by rw [hA.cell]; rfl
  have a2 : W.cell? ⟨b0, 2, none⟩ = some (.int .i64 p) := by rw [hA.cell]; rfl
  have a3 : W.cell? ⟨b0, 3, none⟩ = some (.slice bl ls.length cl) := by rw [hA.cell]; rfl
  have a4 : W.cell? ⟨b0, 4, none⟩ = some (.slice bp ps.length cp) := by rw [hA.cell]; rfl
  have rl := (HL.out.rd.below (by rw [hb0]; exact hb)).below ((Below.refl W.heap.size W).alloc (Nat.le_refl _) (.cells #[] 44))
  have HA := Lib.hid hA; have HZ := Lib.hid hZ; have HB := Lib.hid hb; have HRL := Lib.hid rl; clear hA hZ hb rl
  have hre : Row (W.alloc (.cells #[] 44)) (b0 + 2) 44 4 0 0 [] #[] := by have := Row.empty W 44 4; rwa [hs] at this
  have HRE := Lib.hid hre; clear hre
  go_wp2_with (first
    | (at_builtin
       (refine wpList_append_rd rfl _ _ _ rfl 44 i0 _ 4 40 Tryd.underlying29 hi0 hz0 hz1 hz2 rfl (b0 + 2) 0 0 [] #[] rfl HRE.out _ ls.length (laysC ls) rfl HRL.out (laysC_one ls) (by simp [maxLen]; omega) (by omega) _ rfl ?_)
       intro g1 c1 k1 w2 hr1 hc1 hg1
       try simp only [Nat.zero_add, List.nil_append] at hr1
       have hA2 := (HA.out.alloc (.cells #[] 44)).chg hc1 (by simp <;> omega)
       have hf2 := fun o => hA2.frozen o
       have HA2 := Lib.hid hA2; have HR1 := Lib.hid hr1; have HC1 := Lib.hid hc1
       have d0 : w2.cell? ⟨b0, 0, none⟩ = some (.int .i64 q) := by rw [hA2.cell]; rfl
       have d1 : w2.cell? ⟨b0, 1, none⟩ = some (.int .i64 v) := by rw [hA2.cell]; rfl
       have d2 : w2.cell? ⟨b0, 2, none⟩ = some (.int .i64 p) := by rw [hA2.cell]; rfl
       have d3 : w2.cell? ⟨b0, 3, none⟩ = some (.slice bl ls.length cl) := by rw [hA2.cell]; rfl
       have d4 : w2.cell? ⟨b0, 4, none⟩ = some (.slice bp ps.length cp) := by rw [hA2.cell]; rfl
       have hnb2 : w2.heap.size ≠ b0 := by have := hA2.lt; omega
       have hx4 : ((w2.setCell ⟨b0, 3, none⟩ (sl g1 ls.length c1)).alloc (.cells #[] 51)).cell? ⟨b0, 4, none⟩ = some (.slice bp ps.length cp) := by rw [((hA2.set 3 (sl g1 ls.length c1)).alloc (.cells #[] 51)).cell]; rfl
       clear hA2 hr1 hc1)
    | (at_builtin
       have hg1 : b0 + 2 ≤ g1 := by rcases hg1 with h | h <;> (try simp at h) <;> omega
       have hs2 := HC1.out.size
       simp only [World.size_alloc] at hs2
       have hA3 : Blk (w2.setCell ⟨b0, 3, none⟩ (sl g1 ls.length c1)) b0 32 #[.int .i64 q, .int .i64 v, .int .i64 p, sl g1 ls.length c1, .slice bp ps.length cp] := by have := HA2.out.set 3 (sl g1 ls.length c1); simpa using this
       have hr3 := HR1.out.of_blk (HR1.out.blk.set_other (a := ⟨b0, 3, none⟩) (sl g1 ls.length c1) (by simp; omega))
       have hz3 : Blk (w2.setCell ⟨b0, 3, none⟩ (sl g1 ls.length c1)) (b0 + 1) 32 stkZ := (((HZ.out.alloc (.cells #[] 44)).chg HC1.out (by simp <;> omega))).set_other _ (by simp)
       have hb3 : Below b0 w (w2.setCell ⟨b0, 3, none⟩ (sl g1 ls.length c1)) := ((HB.out.alloc (by omega) (.cells #[] 44)).trans (HC1.out.below (by simp; omega) (by simp <;> omega))).setCell (by simp) _
       have hrp := HP.out.rd.below (by rw [hb0]; exact hb3)
       have hs3 : (w2.setCell ⟨b0, 3, none⟩ (sl g1 ls.length c1)).heap.size = w2.heap.size := by simp
       have hnb : (w2.setCell ⟨b0, 3, none⟩ (sl g1 ls.length c1)).heap.size ≠ b0 := by omega
       have hre2 : Row ((w2.setCell ⟨b0, 3, none⟩ (sl g1 ls.length c1)).alloc (.cells #[] 51)) w2.heap.size 51 7 0 0 [] #[] := by have := Row.empty (w2.setCell ⟨b0, 3, none⟩ (sl g1 ls.length c1)) 51 7; rwa [hs3] at this
       have rp := hrp.below ((Below.refl (w2.setCell ⟨b0, 3, none⟩ (sl g1 ls.length c1)).heap.size (w2.setCell ⟨b0, 3, none⟩ (sl g1 ls.length c1))).alloc (Nat.le_refl _) (.cells #[] 51))
       have HA3 := Lib.hid hA3; have HR3 := Lib.hid hr3; have HZ3 := Lib.hid hz3; have HB3 := Lib.hid hb3; have HRE2 := Lib.hid hre2; have HRP := Lib.hid rp
       clear hA3 hr3 hz3 hb3 hre2 rp hrp
       (refine wpList_append_rd rfl _ _ _ rfl 51 i1 _ 7 64 Tryd.underlying30 hi1 hy0 hy1 hy2 rfl w2.heap.size 0 0 [] #[] rfl HRE2.out _ ps.length (pstsC ps) rfl HRP.out (pstsC_one ps) (by simp [maxLen]; omega) (by omega) _ rfl ?_)
       intro g2 c2 k2 w4 hr2 hc2 hg2
       try simp only [Nat.zero_add, List.nil_append] at hr2
       have hA4 := (HA3.out.alloc (.cells #[] 51)).chg hc2 (by simp <;> omega)
       have hf4 := fun o => hA4.frozen o
       have HA4 := Lib.hid hA4; have HR2 := Lib.hid hr2; have HC2 := Lib.hid hc2
       have d0 : w4.cell? ⟨b0, 0, none⟩ = some (.int .i64 q) := by rw [hA4.cell]; rfl
       have d1 : w4.cell? ⟨b0, 1, none⟩ = some (.int .i64 v) := by rw [hA4.cell]; rfl
       have d2 : w4.cell? ⟨b0, 2, none⟩ = some (.int .i64 p) := by rw [hA4.cell]; rfl
       have d3 : w4.cell? ⟨b0, 3, none⟩ = some (sl g1 ls.length c1) := by rw [hA4.cell]; rfl
       have d4 : w4.cell? ⟨b0, 4, none⟩ = some (.slice bp ps.length cp) := by rw [hA4.cell]; rfl
       have hA5 : Blk (w4.setCell ⟨b0, 4, none⟩ (sl g2 ps.length c2)) b0 32 #[.int .i64 q, .int .i64 v, .int .i64 p, sl g1 ls.length c1, sl g2 ps.length c2] := by have := hA4.set 4 (sl g2 ps.length c2); simpa using this
       have hz5 : Blk (w4.setCell ⟨b0, 4, none⟩ (sl g2 ps.length c2)) (b0 + 1) 32 stkZ := (((HZ3.out.alloc (.cells #[] 51)).chg hc2 (by simp <;> omega))).set_other _ (by simp)
       have y0 : (w4.setCell ⟨b0, 4, none⟩ (sl g2 ps.length c2)).cell? ⟨b0, 0, none⟩ = some (.int .i64 q) := by rw [hA5.cell]; rfl
       have y1 : (w4.setCell ⟨b0, 4, none⟩ (sl g2 ps.length c2)).cell? ⟨b0, 1, none⟩ = some (.int .i64 v) := by rw [hA5.cell]; rfl
       have y2 : (w4.setCell ⟨b0, 4, none⟩ (sl g2 ps.length c2)).cell? ⟨b0, 2, none⟩ = some (.int .i64 p) := by rw [hA5.cell]; rfl
       have y3 : (w4.setCell ⟨b0, 4, none⟩ (sl g2 ps.length c2)).cell? ⟨b0, 3, none⟩ = some (sl g1 ls.length c1) := by rw [hA5.cell]; rfl
       have y4 : (w4.setCell ⟨b0, 4, none⟩ (sl g2 ps.length c2)).cell? ⟨b0, 4, none⟩ = some (sl g2 ps.length c2) := by rw [hA5.cell]; rfl
       have z0 : (w4.setCell ⟨b0, 4, none⟩ (sl g2 ps.length c2)).cell? ⟨b0 + 1, 0, none⟩ = some (.int .i64 0) := by rw [hz5.cell]; rfl
       have z1 : (w4.setCell ⟨b0, 4, none⟩ (sl g2 ps.length c2)).cell? ⟨b0 + 1, 1, none⟩ = some (.int .i64 0) := by rw [hz5.cell]; rfl
       have z2 : (w4.setCell ⟨b0, 4, none⟩ (sl g2 ps.length c2)).cell? ⟨b0 + 1, 2, none⟩ = some (.int .i64 0) := by rw [hz5.cell]; rfl
       have z3 : (w4.setCell ⟨b0, 4, none⟩ (sl g2 ps.length c2)).cell? ⟨b0 + 1, 3, none⟩ = some (.slice none 0 0) := by rw [hz5.cell]; rfl
       have z4 : (w4.setCell ⟨b0, 4, none⟩ (sl g2 ps.length c2)).cell? ⟨b0 + 1, 4, none⟩ = some (.slice none 0 0) := by rw [hz5.cell]; rfl
       have fz := fun o => hz5.frozen o
       have HZ5 := Lib.hid hz5; clear hz5 hA5
       clear hA4 hr2 hc2))
  have hs4 := HC2.out.size
  simp only [World.size_alloc] at hs4
  have lg1 := HR3.out.blk.lt
  have hg2' : w2.heap.size ≤ g2 := by rcases hg2 with h | h <;> (try simp at h) <;> omega
  have hbl := (HR3.out.blk.alloc (.cells #[] 51)).chg HC2.out (by simp; omega)
  have hr5 := (HR3.out.of_blk hbl).of_blk (hbl.set_other (a := ⟨b0, 4, none⟩) (sl g2 ps.length c2) (by simp; omega))
  have hp5 := HR2.out.of_blk (HR2.out.blk.set_other (a := ⟨b0, 4, none⟩) (sl g2 ps.length c2) (by simp; omega))
  have hb5 : Below b0 w (w4.setCell ⟨b0, 4, none⟩ (sl g2 ps.length c2)) := ((HB3.out.alloc (by simp; omega) (.cells #[] 51)).trans (HC2.out.below (by simp; omega) (by simp <;> omega))).setCell (by simp) _
  generalize (w4.setCell ⟨b0, 4, none⟩ (sl g2 ps.length c2)) = W5 at *
  refine bodyPost_ret (v := .agg #[.int .i64 q, .int .i64 v, .int .i64 p, sl g1 ls.length c1, sl g2 ps.length c2]) (by simp [results, Tryd.results20, go_sem, *]) rfl ⟨g1, c1, g2, c2, _, _, rfl, ?_, hr5.of_blk (hr5.blk.set5_other' _ _ _ _ _ (by omega)), hp5.of_blk (hp5.blk.set5_other' _ _ _ _ _ (by omega)), by omega, by omega, by omega⟩
  rw [hb0]
  exact hb5.trans ((set5_chg W5 (b0 + 1) _ _ _ _ _).below (by have := hb5.size; omega) (by simp))
end Go.Proofs.YtboiipkbhbbgfaaDoor
