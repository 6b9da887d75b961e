/- The reference's Clone and SameStock. -/
import Derived.Test.YtboiipkbhbbgfaaDoorJ1
namespace Go.Proofs.YtboiipkbhbbgfaaDoor
open Go.RowKit

theorem Row.empty (w : World) (e : TypeId) (k : Nat) : Row (w.alloc (.cells #[] e)) w.heap.size e k 0 0 [] #[] := ⟨Blk.new _ _ _, Nat.le_refl _, Nat.zero_le _, by simp, by simp, by simp⟩

section
variable {P : Program}
/-- append of a row that may be nil -/
theorem run_append_rd (w : World) (t ty : TypeId) (e : TypeId) (i : TypeInfo) (z : Value) (size bytes : Nat) (ht : P.underlying t = some (.slice e)) (hi : P.info? e = some i) (hz : i.zero = some z)
    (hsize : i.size = size) (hby : i.bytes = bytes) (hzs : z.cells.size = size)
    (g n c : Nat) (xs : List Value) (cur : Array Value) (h : Row w g e size n c xs cur) (v : Value) (m : Nat) (news : List Value) (hr : Rd w size v m news) (h1 : ∀ u ∈ news, u.oneCell' = true)
    (h63 : n + m ≤ maxLen) (hbytes : (n + m) * bytes ≤ 140737488355328) (H : Nat) (hH : w.heap.size = H) :
    ∃ g' c' cur' w', (Builtin.append_ #[t, t] ty #[.slice (some ⟨g, 0, none⟩) n c, v]).run P w = .ok (.slice (some ⟨g', 0, none⟩) (n + m) c') w' ∧
      Row w' g' e size (n + m) c' (xs ++ news) cur' ∧ Chg [g] w w' ∧ (g' = g ∨ g' = H) := by
  rcases hr.2 with ⟨rfl, rfl⟩ | ⟨a, c2, rfl, hc⟩
  · have hn : news = [] := List.eq_nil_of_length_eq_zero (by rw [hr.1]; simp)
    subst hn
    refine ⟨g, c, cur, w, ?_, by simpa using h, Chg.refl _ _, .inl rfl⟩
    have hnc := h.nc
    simp [Builtin.append_, run_underlying ht, Builtin.lenOf, Builtin.firstCells, sizeOf, typeInfo, hi, storeCells, hnc]
  · exact run_append_row w t ty e i z size bytes ht hi hz hsize hby hzs g n c xs cur h a m c2 news hr.1 hc h1 h63 hbytes H hH

theorem wpList_append_rd {w : World} {ops : Array Oper} {rest : List Oper} {o : Oper} {a : Act} {Q : Exit → Act → World → Prop} (hgd : o.guard = none) (s x : Operand) (t : TypeId)
    (ho : o.op = .call { callee := .builtin .append, args := #[s, x], argTypes := #[t, t] })
    (e : TypeId) (i : TypeInfo) (z : Value) (size bytes : Nat) (ht : P.underlying t = some (.slice e)) (hi : P.info? e = some i) (hz : i.zero = some z)
    (hsize : i.size = size) (hby : i.bytes = bytes) (hzs : z.cells.size = size)
    (g n c : Nat) (xs : List Value) (cur : Array Value) (hs : a.eval s = .slice (some ⟨g, 0, none⟩) n c) (hrow : Row w g e size n c xs cur)
    (v : Value) (m : Nat) (news : List Value) (hx : a.eval x = v) (hr : Rd w size v m news) (h1 : ∀ u ∈ news, u.oneCell' = true)
    (h63 : n + m ≤ maxLen) (hbytes : (n + m) * bytes ≤ 140737488355328) (H : Nat) (hH : w.heap.size = H)
    (h : ∀ g' c' cur' w', Row w' g' e size (n + m) c' (xs ++ news) cur' → Chg [g] w w' → (g' = g ∨ g' = H) → wpList P ops Q rest (a.put o.dst (.slice (some ⟨g', 0, none⟩) (n + m) c')) w') : wpList P ops Q (o :: rest) a w := by
  refine wpList_plain hgd fun K hK => ?_
  obtain ⟨g', c', cur', w', hrun, h2, h3, h4⟩ := run_append_rd (P := P) w t o.type e i z size bytes ht hi hz hsize hby hzs g n c xs cur hrow v m news hr h1 h63 hbytes H hH
  unfold Oper.wp
  simp [execOp, ho, resolve, invoke, builtin, hs, hx, hrun, Result.andThen]
  exact hK _ _ (h g' c' cur' w' h2 h3 h4)
end

theorem Blk.set5_other' {w : World} {g b : Nat} {e : TypeId} {cur : Array Value} (h : Blk w g e cur) (q v p vl vp : Value) (hne : b ≠ g) : Blk (set5 w b q v p vl vp) g e cur :=
  ((((h.set_other _ hne).set_other _ hne).set_other _ hne).set_other _ hne).set_other _ hne
/-- what Clone returns: rows of its own -/
def ClonePost (q v p : Int) (ls : List Lay) (ps : List Pst) (w : World) (e : Ending) (w' : World) : Prop :=
  ∃ gl cl gp cp kl kp, e = .returned (.agg #[.int .i64 q, .int .i64 v, .int .i64 p, sl gl ls.length cl, sl gp ps.length cp]) ∧ Below w.heap.size w w' ∧ LRow w' gl cl ls kl ∧ PRow w' gp cp ps kp ∧ gl ≠ gp ∧ w.heap.size ≤ gl ∧ w.heap.size ≤ gp

set_option maxRecDepth 100000 in
set_option maxHeartbeats 8000000 in
theorem clone_any (q v p : Int) (bl : Option Addr) (cl : Nat) (bp : Option Addr) (cp : Nat) (ls : List Lay) (ps : List Pst) (w : World)
    (hl : OwnL w 0 (.slice bl ls.length cl) ls) (hp : OwnP w 0 (.slice bp ps.length cp) ps) (hn : ls.length ≤ 900) (hnp : ps.length ≤ 900) :
    Calls Tryd.prog 20 #[.agg #[.int .i64 q, .int .i64 v, .int .i64 p, .slice bl ls.length cl, .slice bp ps.length cp]] w (ClonePost q v p ls ps w) := by
  obtain ⟨i0, hi0, hz0, hz1, hz2⟩ := info_parts Tryd.info44
  obtain ⟨i1, hi1, hy0, hy1, hy2⟩ := info_parts Tryd.info51
  have HL := Lib.hid hl; have HP := Lib.hid hp; clear hl hp
  go_enter Tryd.func20, Tryd.ntmps20
  go_upto_region 1 with fail
  have hA : Blk ((w.alloc (.cells #[.int .i64 q, .int .i64 v, .int .i64 p, .slice bl ls.length cl, .slice bp ps.length cp] 32)).alloc (.cells stkZ 32)) w.heap.size 32 #[.int .i64 q, .int .i64 v, .int .i64 p, .slice bl ls.length cl, .slice bp ps.length cp] := (Blk.new _ _ _).alloc _
  have hZ : Blk ((w.alloc (.cells #[.int .i64 q, .int .i64 v, .int .i64 p, .slice bl ls.length cl, .slice bp ps.length cp] 32)).alloc (.cells stkZ 32)) (w.heap.size + 1) 32 stkZ := Blk.new2 _ _ _ _
  have hb : Below w.heap.size w ((w.alloc (.cells #[.int .i64 q, .int .i64 v, .int .i64 p, .slice bl ls.length cl, .slice bp ps.length cp] 32)).alloc (.cells stkZ 32)) := ((Below.refl _ _).alloc (Nat.le_refl _) _).alloc (by simp) _
  have hs : ((w.alloc (.cells #[.int .i64 q, .int .i64 v, .int .i64 p, .slice bl ls.length cl, .slice bp ps.length cp] 32)).alloc (.cells stkZ 32)).heap.size = w.heap.size + 2 := by simp
  generalize (w.alloc (.cells #[.int .i64 q, .int .i64 v, .int .i64 p, .slice bl ls.length cl, .slice bp ps.length cp] 32)).alloc (.cells stkZ 32) = W at *
  generalize hb0 : w.heap.size = b0 at *
  have a0 : W.cell? ⟨b0, 0, none⟩ = some (.int .i64 q) := by rw [hA.cell]; rfl
  have a1 : W.cell? ⟨b0, 1, none⟩ = some (.int .i64 v) := by rw [hA.cell]; rfl
  have a2 : W.cell? ⟨b0, 2, none⟩ = some (.int .i64 p) := by rw [hA.cell]; rfl
  have a3 : W.cell? ⟨b0, 3, none⟩ = some (.slice bl ls.length cl) := by rw [hA.cell]; rfl
  have a4 : W.cell? ⟨b0, 4, none⟩ = some (.slice bp ps.length cp) := by rw [hA.cell]; rfl
  have rl := (HL.out.rd.below (by rw [hb0]; exact hb)).below ((Below.refl W.heap.size W).alloc (Nat.le_refl _) (.cells #[] 44))
  have HA := Lib.hid hA; have HZ := Lib.hid hZ; have HB := Lib.hid hb; have HRL := Lib.hid rl; clear hA hZ hb rl
  have hre : Row (W.alloc (.cells #[] 44)) (b0 + 2) 44 4 0 0 [] #[] := by have := Row.empty W 44 4; rwa [hs] at this
  have HRE := Lib.hid hre; clear hre
  go_wp2_with (first
    | (at_builtin
       (refine wpList_append_rd rfl _ _ _ rfl 44 i0 _ 4 40 Tryd.underlying29 hi0 hz0 hz1 hz2 rfl (b0 + 2) 0 0 [] #[] rfl HRE.out _ ls.length (laysC ls) rfl HRL.out (laysC_one ls) (by simp [maxLen]; omega) (by omega) _ rfl ?_)
       intro g1 c1 k1 w2 hr1 hc1 hg1
       try simp only [Nat.zero_add, List.nil_append] at hr1
       have hA2 := (HA.out.alloc (.cells #[] 44)).chg hc1 (by simp <;> omega)
       have hf2 := fun o => hA2.frozen o
       have HA2 := Lib.hid hA2; have HR1 := Lib.hid hr1; have HC1 := Lib.hid hc1
       have d0 : w2.cell? ⟨b0, 0, none⟩ = some (.int .i64 q) := by rw [hA2.cell]; rfl
       have d1 : w2.cell? ⟨b0, 1, none⟩ = some (.int .i64 v) := by rw [hA2.cell]; rfl
       have d2 : w2.cell? ⟨b0, 2, none⟩ = some (.int .i64 p) := by rw [hA2.cell]; rfl
       have d3 : w2.cell? ⟨b0, 3, none⟩ = some (.slice bl ls.length cl) := by rw [hA2.cell]; rfl
       have d4 : w2.cell? ⟨b0, 4, none⟩ = some (.slice bp ps.length cp) := by rw [hA2.cell]; rfl
       have hnb2 : w2.heap.size ≠ b0 := by have := hA2.lt; omega
       have hx4 : ((w2.setCell ⟨b0, 3, none⟩ (sl g1 ls.length c1)).alloc (.cells #[] 51)).cell? ⟨b0, 4, none⟩ = some (.slice bp ps.length cp) := by rw [((hA2.set 3 (sl g1 ls.length c1)).alloc (.cells #[] 51)).cell]; rfl
       clear hA2 hr1 hc1)
    | (at_builtin
       have hg1 : b0 + 2 ≤ g1 := by rcases hg1 with h | h <;> (try simp at h) <;> omega
       have hs2 := HC1.out.size
       simp only [World.size_alloc] at hs2
       have hA3 : Blk (w2.setCell ⟨b0, 3, none⟩ (sl g1 ls.length c1)) b0 32 #[.int .i64 q, .int .i64 v, .int .i64 p, sl g1 ls.length c1, .slice bp ps.length cp] := by have := HA2.out.set 3 (sl g1 ls.length c1); simpa using this
       have hr3 := HR1.out.of_blk (HR1.out.blk.set_other (a := ⟨b0, 3, none⟩) (sl g1 ls.length c1) (by simp; omega))
       have hz3 : Blk (w2.setCell ⟨b0, 3, none⟩ (sl g1 ls.length c1)) (b0 + 1) 32 stkZ := (((HZ.out.alloc (.cells #[] 44)).chg HC1.out (by simp <;> omega))).set_other _ (by simp)
       have hb3 : Below b0 w (w2.setCell ⟨b0, 3, none⟩ (sl g1 ls.length c1)) := ((HB.out.alloc (by omega) (.cells #[] 44)).trans (HC1.out.below (by simp; omega) (by simp <;> omega))).setCell (by simp) _
       have hrp := HP.out.rd.below (by rw [hb0]; exact hb3)
       have hs3 : (w2.setCell ⟨b0, 3, none⟩ (sl g1 ls.length c1)).heap.size = w2.heap.size := by simp
       have hnb : (w2.setCell ⟨b0, 3, none⟩ (sl g1 ls.length c1)).heap.size ≠ b0 := by omega
       have hre2 : Row ((w2.setCell ⟨b0, 3, none⟩ (sl g1 ls.length c1)).alloc (.cells #[] 51)) w2.heap.size 51 7 0 0 [] #[] := by have := Row.empty (w2.setCell ⟨b0, 3, none⟩ (sl g1 ls.length c1)) 51 7; rwa [hs3] at this
       have rp := hrp.below ((Below.refl (w2.setCell ⟨b0, 3, none⟩ (sl g1 ls.length c1)).heap.size (w2.setCell ⟨b0, 3, none⟩ (sl g1 ls.length c1))).alloc (Nat.le_refl _) (.cells #[] 51))
       have HA3 := Lib.hid hA3; have HR3 := Lib.hid hr3; have HZ3 := Lib.hid hz3; have HB3 := Lib.hid hb3; have HRE2 := Lib.hid hre2; have HRP := Lib.hid rp
       clear hA3 hr3 hz3 hb3 hre2 rp hrp
       (refine wpList_append_rd rfl _ _ _ rfl 51 i1 _ 7 64 Tryd.underlying30 hi1 hy0 hy1 hy2 rfl w2.heap.size 0 0 [] #[] rfl HRE2.out _ ps.length (pstsC ps) rfl HRP.out (pstsC_one ps) (by simp [maxLen]; omega) (by omega) _ rfl ?_)
       intro g2 c2 k2 w4 hr2 hc2 hg2
       try simp only [Nat.zero_add, List.nil_append] at hr2
       have hA4 := (HA3.out.alloc (.cells #[] 51)).chg hc2 (by simp <;> omega)
       have hf4 := fun o => hA4.frozen o
       have HA4 := Lib.hid hA4; have HR2 := Lib.hid hr2; have HC2 := Lib.hid hc2
       have d0 : w4.cell? ⟨b0, 0, none⟩ = some (.int .i64 q) := by rw [hA4.cell]; rfl
       have d1 : w4.cell? ⟨b0, 1, none⟩ = some (.int .i64 v) := by rw [hA4.cell]; rfl
       have d2 : w4.cell? ⟨b0, 2, none⟩ = some (.int .i64 p) := by rw [hA4.cell]; rfl
       have d3 : w4.cell? ⟨b0, 3, none⟩ = some (sl g1 ls.length c1) := by rw [hA4.cell]; rfl
       have d4 : w4.cell? ⟨b0, 4, none⟩ = some (.slice bp ps.length cp) := by rw [hA4.cell]; rfl
       have hA5 : Blk (w4.setCell ⟨b0, 4, none⟩ (sl g2 ps.length c2)) b0 32 #[.int .i64 q, .int .i64 v, .int .i64 p, sl g1 ls.length c1, sl g2 ps.length c2] := by have := hA4.set 4 (sl g2 ps.length c2); simpa using this
       have hz5 : Blk (w4.setCell ⟨b0, 4, none⟩ (sl g2 ps.length c2)) (b0 + 1) 32 stkZ := (((HZ3.out.alloc (.cells #[] 51)).chg hc2 (by simp <;> omega))).set_other _ (by simp)
       have y0 : (w4.setCell ⟨b0, 4, none⟩ (sl g2 ps.length c2)).cell? ⟨b0, 0, none⟩ = some (.int .i64 q) := by rw [hA5.cell]; rfl
       have y1 : (w4.setCell ⟨b0, 4, none⟩ (sl g2 ps.length c2)).cell? ⟨b0, 1, none⟩ = some (.int .i64 v) := by rw [hA5.cell]; rfl
       have y2 : (w4.setCell ⟨b0, 4, none⟩ (sl g2 ps.length c2)).cell? ⟨b0, 2, none⟩ = some (.int .i64 p) := by rw [hA5.cell]; rfl
       have y3 : (w4.setCell ⟨b0, 4, none⟩ (sl g2 ps.length c2)).cell? ⟨b0, 3, none⟩ = some (sl g1 ls.length c1) := by rw [hA5.cell]; rfl
       have y4 : (w4.setCell ⟨b0, 4, none⟩ (sl g2 ps.length c2)).cell? ⟨b0, 4, none⟩ = some (sl g2 ps.length c2) := by rw [hA5.cell]; rfl
       have z0 : (w4.setCell ⟨b0, 4, none⟩ (sl g2 ps.length c2)).cell? ⟨b0 + 1, 0, none⟩ = some (.int .i64 0) := by rw [hz5.cell]; rfl
       have z1 : (w4.setCell ⟨b0, 4, none⟩ (sl g2 ps.length c2)).cell? ⟨b0 + 1, 1, none⟩ = some (.int .i64 0) := by rw [hz5.cell]; rfl
       have z2 : (w4.setCell ⟨b0, 4, none⟩ (sl g2 ps.length c2)).cell? ⟨b0 + 1, 2, none⟩ = some (.int .i64 0) := by rw [hz5.cell]; rfl
       have z3 : (w4.setCell ⟨b0, 4, none⟩ (sl g2 ps.length c2)).cell? ⟨b0 + 1, 3, none⟩ = some (.slice none 0 0) := by rw [hz5.cell]; rfl
       have z4 : (w4.setCell ⟨b0, 4, none⟩ (sl g2 ps.length c2)).cell? ⟨b0 + 1, 4, none⟩ = some (.slice none 0 0) := by rw [hz5.cell]; rfl
       have fz := fun o => hz5.frozen o
       have HZ5 := Lib.hid hz5; clear hz5 hA5
       clear hA4 hr2 hc2))
  have hs4 := HC2.out.size
  simp only [World.size_alloc] at hs4
  have lg1 := HR3.out.blk.lt
  have hg2' : w2.heap.size ≤ g2 := by rcases hg2 with h | h <;> (try simp at h) <;> omega
  have hbl := (HR3.out.blk.alloc (.cells #[] 51)).chg HC2.out (by simp; omega)
  have hr5 := (HR3.out.of_blk hbl).of_blk (hbl.set_other (a := ⟨b0, 4, none⟩) (sl g2 ps.length c2) (by simp; omega))
  have hp5 := HR2.out.of_blk (HR2.out.blk.set_other (a := ⟨b0, 4, none⟩) (sl g2 ps.length c2) (by simp; omega))
  have hb5 : Below b0 w (w4.setCell ⟨b0, 4, none⟩ (sl g2 ps.length c2)) := ((HB3.out.alloc (by simp; omega) (.cells #[] 51)).trans (HC2.out.below (by simp; omega) (by simp <;> omega))).setCell (by simp) _
  generalize (w4.setCell ⟨b0, 4, none⟩ (sl g2 ps.length c2)) = W5 at *
  refine bodyPost_ret (v := .agg #[.int .i64 q, .int .i64 v, .int .i64 p, sl g1 ls.length c1, sl g2 ps.length c2]) (by simp [results, Tryd.results20, go_sem, *]) rfl ⟨g1, c1, g2, c2, _, _, rfl, ?_, hr5.of_blk (hr5.blk.set5_other' _ _ _ _ _ (by omega)), hp5.of_blk (hp5.blk.set5_other' _ _ _ _ _ (by omega)), by omega, by omega, by omega⟩
  rw [hb0]
  exact hb5.trans ((set5_chg W5 (b0 + 1) _ _ _ _ _).below (by have := hb5.size; omega) (by simp))

structure SameR (w : World) (a b : Array Value) (v1 u1 v2 u2 : Value) (ls : List Lay) (ps : List Pst) (wx : World) : Prop where
  bel : Below w.heap.size w wx
  a : Blk wx w.heap.size 32 a
  b : Blk wx (w.heap.size + 1) 32 b
  l1 : OwnL wx 0 v1 ls
  p1 : OwnP wx 0 u1 ps
  l2 : OwnL wx 0 v2 ls
  p2 : OwnP wx 0 u2 ps
theorem SameR.drew {w : World} {a b : Array Value} {v1 u1 v2 u2 : Value} {ls : List Lay} {ps : List Pst} {wx : World} (h : SameR w a b v1 u1 v2 u2 ls ps wx) : SameR w a b v1 u1 v2 u2 ls ps wx.drew :=
  ⟨h.bel.drew, h.a.drew, h.b.drew, h.l1.below' (Below.refl _ _).drew, h.p1.below' (Below.refl _ _).drew, h.l2.below' (Below.refl _ _).drew, h.p2.below' (Below.refl _ _).drew⟩

set_option maxRecDepth 100000 in
set_option maxHeartbeats 4000000 in
theorem same_any (q v p : Int) (bl1 : Option Addr) (cl1 : Nat) (bp1 : Option Addr) (cp1 : Nat) (bl2 : Option Addr) (cl2 : Nat) (bp2 : Option Addr) (cp2 : Nat) (ls : List Lay) (ps : List Pst) (w : World)
    (h1 : OwnL w 0 (.slice bl1 ls.length cl1) ls) (h2 : OwnP w 0 (.slice bp1 ps.length cp1) ps) (h3 : OwnL w 0 (.slice bl2 ls.length cl2) ls) (h4 : OwnP w 0 (.slice bp2 ps.length cp2) ps) (hn : ls.length ≤ 900) (hnp : ps.length ≤ 900) :
    Calls Tryd.prog 16 #[.agg #[.int .i64 q, .int .i64 v, .int .i64 p, .slice bl1 ls.length cl1, .slice bp1 ps.length cp1], .agg #[.int .i64 q, .int .i64 v, .int .i64 p, .slice bl2 ls.length cl2, .slice bp2 ps.length cp2]] w fun e w' => e = .returned (.bool true) ∧ Below w.heap.size w w' := by
  have hR : SameR w #[.int .i64 q, .int .i64 v, .int .i64 p, .slice bl1 ls.length cl1, .slice bp1 ps.length cp1] #[.int .i64 q, .int .i64 v, .int .i64 p, .slice bl2 ls.length cl2, .slice bp2 ps.length cp2] (.slice bl1 ls.length cl1) (.slice bp1 ps.length cp1) (.slice bl2 ls.length cl2) (.slice bp2 ps.length cp2) ls ps ((w.alloc (.cells #[.int .i64 q, .int .i64 v, .int .i64 p, .slice bl1 ls.length cl1, .slice bp1 ps.length cp1] 32)).alloc (.cells #[.int .i64 q, .int .i64 v, .int .i64 p, .slice bl2 ls.length cl2, .slice bp2 ps.length cp2] 32)) := by
    have hb : Below w.heap.size w ((w.alloc (.cells #[.int .i64 q, .int .i64 v, .int .i64 p, .slice bl1 ls.length cl1, .slice bp1 ps.length cp1] 32)).alloc (.cells #[.int .i64 q, .int .i64 v, .int .i64 p, .slice bl2 ls.length cl2, .slice bp2 ps.length cp2] 32)) := ((Below.refl _ _).alloc (Nat.le_refl _) _).alloc (by simp) _
    exact ⟨hb, (Blk.new _ _ _).alloc _, Blk.new2 _ _ _ _, h1.below' hb, h2.below' hb, h3.below' hb, h4.below' hb⟩
  have HR := Lib.hid hR; clear hR h1 h2 h3 h4
  go_enter Tryd.func16, Tryd.ntmps16
  go_wp2_with fail
  go_loopg [5] ls.length (fun g i wx => ∃ j : Nat, i = .int .i64 j ∧ j ≤ ls.length ∧ g = ls.length - j ∧ SameR w #[.int .i64 q, .int .i64 v, .int .i64 p, .slice bl1 ls.length cl1, .slice bp1 ps.length cp1] #[.int .i64 q, .int .i64 v, .int .i64 p, .slice bl2 ls.length cl2, .slice bp2 ps.length cp2] (.slice bl1 ls.length cl1) (.slice bp1 ps.length cp1) (.slice bl2 ls.length cl2) (.slice bp2 ps.length cp2) ls ps wx)
  case atStart => exact ⟨0, rfl, Nat.zero_le _, rfl, HR.out⟩
  case round =>
    obtain ⟨j, rfl, hjn, hgj, hR⟩ := hrel
    have a3 : wr.cell? ⟨w.heap.size, 3, none⟩ = some (.slice bl1 ls.length cl1) := by rw [hR.a.cell]; rfl
    have b3 : wr.cell? ⟨w.heap.size + 1, 3, none⟩ = some (.slice bl2 ls.length cl2) := by rw [hR.b.cell]; rfl
    have HGJ := Lib.hid hgj; clear hgj
    by_cases hj : j < ls.length
    · obtain ⟨g1, k1, rfl, -, -, hr1⟩ := hR.l1.block (by omega)
      obtain ⟨g2, k2, rfl, -, -, hr2⟩ := hR.l2.block (by omega)
      obtain ⟨l0, l1, l2, l3⟩ := hr1.lay j hj
      obtain ⟨m0, m1, m2, m3⟩ := hr2.lay j hj
      generalize ls.getD j zLay = L at *
      have j1 : (0 : Int) ≤ (j : Int) := by omega
      have j2 : (j : Int) < (ls.length : Int) := by omega
      have HR2 := Lib.hid hR; clear hR hr1 hr2 HR
      go_wp2_with fail
      refine still_tail2 10 (by kernel_rfl) (by kernel_rfl) ?_
      simp only [List.take_succ_cons, List.take_zero, List.drop_succ_cons, List.drop_zero]
      repeat still_step
      refine wpStill_nil ?_
      go_wp2_with fail
      go_roundg (ls.length - (j + 1))
      case measure => rw [HGJ.out]; omega
      case rel => exact ⟨j + 1, by go_num, by omega, rfl, HR2.out.drew⟩
    · have HR2 := Lib.hid hR; clear hR HR
      generalize hw0 : wr = w0 at *
      go_wp2_with fail
      go_loopg [6] ps.length (fun g i wx => ∃ k : Nat, i = .int .i64 k ∧ k ≤ ps.length ∧ g = ps.length - k ∧ SameR w #[.int .i64 q, .int .i64 v, .int .i64 p, .slice bl1 ls.length cl1, .slice bp1 ps.length cp1] #[.int .i64 q, .int .i64 v, .int .i64 p, .slice bl2 ls.length cl2, .slice bp2 ps.length cp2] (.slice bl1 ls.length cl1) (.slice bp1 ps.length cp1) (.slice bl2 ls.length cl2) (.slice bp2 ps.length cp2) ls ps wx)
      case atStart => exact ⟨0, rfl, Nat.zero_le _, rfl, HR2.out⟩
      case round =>
        obtain ⟨k, rfl, hkn, hgk, hR⟩ := hrel
        have a4 : wr.cell? ⟨w.heap.size, 4, none⟩ = some (.slice bp1 ps.length cp1) := by rw [hR.a.cell]; rfl
        have b4 : wr.cell? ⟨w.heap.size + 1, 4, none⟩ = some (.slice bp2 ps.length cp2) := by rw [hR.b.cell]; rfl
        have HGK := Lib.hid hgk; clear hgk
        by_cases hk : k < ps.length
        · obtain ⟨g1, k1, rfl, -, -, hr1⟩ := hR.p1.block (by omega)
          obtain ⟨g2, k2, rfl, -, -, hr2⟩ := hR.p2.block (by omega)
          obtain ⟨l0, l1, l2, l3, l4, l5, l6⟩ := hr1.pst k hk
          obtain ⟨m0, m1, m2, m3, m4, m5, m6⟩ := hr2.pst k hk
          generalize ps.getD k zPst = L at *
          have j1 : (0 : Int) ≤ (k : Int) := by omega
          have j2 : (k : Int) < (ps.length : Int) := by omega
          have HR3 := Lib.hid hR; clear hR hr1 hr2 HR2
          go_wp2_with fail
          refine still_tail2 10 (by kernel_rfl) (by kernel_rfl) ?_
          simp only [List.take_succ_cons, List.take_zero, List.drop_succ_cons, List.drop_zero]
          repeat still_step
          refine wpStill_nil ?_
          go_wp2_with fail
          go_roundg (ps.length - (k + 1))
          case measure => rw [HGK.out]; omega
          case rel => exact ⟨k + 1, by go_num, by omega, rfl, HR3.out.drew⟩
        · have HR3 := Lib.hid hR; clear hR HR2
          go_wp2_with fail
          go_ret
          exact ⟨rfl, HR3.out.bel⟩
end Go.Proofs.YtboiipkbhbbgfaaDoor
