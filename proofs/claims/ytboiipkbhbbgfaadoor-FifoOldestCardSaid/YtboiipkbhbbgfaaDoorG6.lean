/- The walk of fifo's receive. -/
import Derived.Test.YtboiipkbhbbgfaaDoorG5
namespace Go.Proofs.YtboiipkbhbbgfaaDoor
open Go.RowKit

/-- what a movement's method leaves -/
def MPost (B gx : Nat) (s : Stk) (m : Mov) (o : Out) (w : World) (e : Ending) (w' : World) : Prop :=
  e = .returned (.int .i64 o.err) ∧ Below B w w' ∧ (o.err = 0 → StB w' B gx { s with lays := o.lays, psts := o.psts } m o.cst)

abbrev mCells (m : Mov) : Array Value := #[.int .i64 m.seq, .int .i64 m.value, .string m.item, .int .i64 m.kind, .int .i64 m.qty, .int .i64 m.cost, .string m.lot, .int .i64 m.ref]
abbrev c0 (m : Mov) : Cst := ⟨m.seq, 0, 0, 0⟩

theorem pstF {w w1 : World} {gx gp : Nat} {e : TypeId} {cur : Array Value} {o1 : Obj} {o : Nat} {v : Value} (h : Chg [gp] (w.alloc o1).drew w1) (hx : Blk w gx e cur) (hn : gx ≠ gp) (hv : cur[o]? = some v) :
    w1.cell? ⟨gx, o, none⟩ = some v ∧ w1.frozen? ⟨gx, o, none⟩ = false ∧ w.heap.size + 1 ≤ w1.heap.size := by
  have hb : Blk w1 gx e cur := ((hx.alloc o1).drew).chg h (by simpa using hn)
  have hs := h.size
  simp at hs
  exact ⟨by rw [hb.cell, hv], hb.frozen o, hs⟩

theorem St.drew {w : World} {gx gl gp cl cp : Nat} {s : Stk} {m : Mov} {c : Cst} {kl kp : Array Value} (h : St w gx gl gp cl cp s m c kl kp) : St w.drew gx gl gp cl cp s m c kl kp := ⟨h.x.drew, h.l.of_blk h.l.blk.drew, h.p.of_blk h.p.blk.drew, h.xl, h.xp, h.lp⟩
theorem end2 {B : Nat} {S : List Nat} {w w3 : World} {gx gl gp cl cp : Nat} {s : Stk} {m : Mov} {d : Int} {kl kp : Array Value} {q0 v0 : Int} (h : St w3 gx gl gp cl cp s m ⟨m.seq, q0, v0, d⟩ kl kp) (hc : Chg S w w3) (hB : B ≤ w.heap.size) (hS : ∀ x ∈ S, B ≤ x) (b1 : B ≤ gx) (b2 : B ≤ gl) (b3 : B ≤ gp) (a b : Int) :
    StB ((w3.setCell ⟨gx, 14, none⟩ (.int .i64 a)).setCell ⟨gx, 15, none⟩ (.int .i64 b)) B gx s m ⟨m.seq, a, b, d⟩ ∧ Below B w ((w3.setCell ⟨gx, 14, none⟩ (.int .i64 a)).setCell ⟨gx, 15, none⟩ (.int .i64 b)) := by
  have h1 := h.setx (s' := s) (c' := ⟨m.seq, a, v0, d⟩) 14 (.int .i64 a) rfl rfl rfl
  have h2 := h1.setx (s' := s) (c' := ⟨m.seq, a, b, d⟩) 15 (.int .i64 b) rfl rfl rfl
  exact ⟨⟨gl, gp, cl, cp, kl, kp, h2, b1, b2, b3⟩, ((hc.below hB hS).setCell b1 _).setCell b1 _⟩
theorem StB.drew {w : World} {B gx : Nat} {s : Stk} {m : Mov} {c : Cst} (h : StB w B gx s m c) : StB w.drew B gx s m c := by
  obtain ⟨gl, gp, cl, cp, kl, kp, h, r⟩ := h
  exact ⟨gl, gp, cl, cp, kl, kp, h.drew, r⟩

set_option maxRecDepth 100000 in
set_option maxHeartbeats 8000000 in
theorem receive_any (B gx gl gp cl cp : Nat) (s : Stk) (m : Mov) (kl kp : Array Value) (w : World) (h : St w gx gl gp cl cp s m (c0 m) kl kp) (hn : s.lays.length ≤ 1000) (hnp : s.psts.length ≤ 1000) (hB : B ≤ w.heap.size) (b1 : B ≤ gx) (b2 : B ≤ gl) (b3 : B ≤ gp) :
    Calls Tryd.prog 31 #[.pointer (some ⟨gx, 0, none⟩)] w fun e w' => MPost B gx s m (receiveM s m) w e w' := by
  obtain ⟨i0, hi0, hz0, hz1, hz2⟩ := info_parts Tryd.info51
  have lx := h.x.lt
  have hx := h.x.cell
  have c5 : w.cell? ⟨gx, 5, none⟩ = some (.int .i64 m.seq) := by rw [hx]; rfl
  have c6 : w.cell? ⟨gx, 6, none⟩ = some (.int .i64 m.value) := by rw [hx]; rfl
  have c7 : w.cell? ⟨gx, 7, none⟩ = some (.string m.item) := by rw [hx]; rfl
  have c8 : w.cell? ⟨gx, 8, none⟩ = some (.int .i64 m.kind) := by rw [hx]; rfl
  have c9 : w.cell? ⟨gx, 9, none⟩ = some (.int .i64 m.qty) := by rw [hx]; rfl
  have c10 : w.cell? ⟨gx, 10, none⟩ = some (.int .i64 m.cost) := by rw [hx]; rfl
  have c11 : w.cell? ⟨gx, 11, none⟩ = some (.string m.lot) := by rw [hx]; rfl
  have c12 : w.cell? ⟨gx, 12, none⟩ = some (.int .i64 m.ref) := by rw [hx]; rfl
  clear hx
  have HS := Lib.hid h; clear h
  go_enter Tryd.func31, Tryd.ntmps31
  go_wp2_with fail
  have hal : St (w.alloc (.cells (mCells m) 38)) gx gl gp cl cp s m (c0 m) kl kp := HS.out.below' ((Below.refl _ _).alloc (Nat.le_refl _) _)
  refine (put_any gx gl gp cl cp s m (c0 m) kl kp ⟨m.seq, m.lot, m.qty, m.cost⟩ _ hal hn).mono ?_
  rintro e w1 ⟨rfl, gl', cl', kl', hs1, hch, hat⟩
  have lg := HS.out.l.blk.lt
  have lgp := HS.out.p.blk.lt
  have hm1 : Blk w1 w.heap.size 38 (mCells m) := (Blk.new w 38 (mCells m)).chg hch (by simp; omega)
  have d0 : w1.cell? ⟨w.heap.size, 0, none⟩ = some (.int .i64 m.seq) := by rw [hm1.cell]; rfl
  have d3 : w1.cell? ⟨w.heap.size, 3, none⟩ = some (.int .i64 m.kind) := by rw [hm1.cell]; rfl
  have d4 : w1.cell? ⟨w.heap.size, 4, none⟩ = some (.int .i64 m.qty) := by rw [hm1.cell]; rfl
  have d5 : w1.cell? ⟨w.heap.size, 5, none⟩ = some (.int .i64 m.cost) := by rw [hm1.cell]; rfl
  have d6 : w1.cell? ⟨w.heap.size, 6, none⟩ = some (.string m.lot) := by rw [hm1.cell]; rfl
  have g4 : w1.cell? ⟨gx, 4, none⟩ = some (sl gp s.psts.length cp) := by rw [hs1.x.cell]; rfl
  have n4 := World.new_ne w1 _ g4
  have n0 := World.new_ne w1 _ d0
  have hlt1 := hm1.lt
  have ne1 : gx ≠ w.heap.size := by omega
  have ne2 : w.heap.size ≠ gx := by omega
  have hltx := hs1.x.lt
  have HS1 := Lib.hid hs1; have HM1 := Lib.hid hm1; have HCH := Lib.hid hch; have HAT := Lib.hid hat; clear hs1 hm1 hch hat hal
  go_wp2_with fail
  refine wp_region_held_drew (S := (fun w' => w'.cell? ⟨w.heap.size, 0, none⟩ = some (.int .i64 m.seq) ∧ w'.cell? ⟨w.heap.size, 3, none⟩ = some (.int .i64 m.kind) ∧ w'.cell? ⟨w.heap.size, 4, none⟩ = some (.int .i64 m.qty) ∧ w'.cell? ⟨w.heap.size, 5, none⟩ = some (.int .i64 m.cost) ∧ w'.cell? ⟨w.heap.size, 6, none⟩ = some (.string m.lot))) (by kernel_rfl) (by (first | (go_keep; done) | ((try go_split_ands); (repeat' apply And.intro) <;> (first | (go_keep; done) | (rw [hchg.cell _ (by simp <;> omega) (by simp <;> omega)]; (first | assumption | (go_keep; done))))))) (fun hHeld => ?_)
  refine wpAnyH_take (i := 0) (v := ?_) rfl (by kernel_rfl) (by kernel_rfl) (by kernel_rfl) (fun _ _ _ h => h) (Or.inl ⟨by rfl, ?_⟩) (by assumption) ?_
  rotate_left
  · (intro w hSw; (try dsimp only at hSw); go_simp)
    (try with_reducible rfl)
  (try simp only [Act.put, List.setIfInBounds_toArray])
  refine wpAnyH_take (i := 1) (v := ?_) rfl (by kernel_rfl) (by kernel_rfl) (by kernel_rfl) (fun _ _ _ h => h) (Or.inl ⟨by rfl, ?_⟩) (by assumption) ?_
  rotate_left
  · (intro w hSw; (try dsimp only at hSw); go_simp)
    (try with_reducible rfl)
  (try simp only [Act.put])
  refine wpAnyH_take (i := 2) (v := ?_) rfl (by kernel_rfl) (by kernel_rfl) (by kernel_rfl) (fun _ _ _ h => h) (Or.inl ⟨by rfl, ?_⟩) (by assumption) ?_
  rotate_left
  · (intro w hSw; (try dsimp only at hSw); go_simp)
    (try with_reducible rfl)
  (try simp only [Act.put])
  refine wpAnyH_take (i := 3) (v := ?_) rfl (by kernel_rfl) (by kernel_rfl) (by kernel_rfl) (fun _ _ _ h => h) (Or.inl ⟨by rfl, ?_⟩) (by assumption) ?_
  rotate_left
  · (intro w hSw; (try dsimp only at hSw); go_simp)
    (try with_reducible rfl)
  (try simp only [Act.put])
  refine wpAnyH_take (i := 4) (v := ?_) rfl (by kernel_rfl) (by kernel_rfl) (by kernel_rfl) (fun _ _ _ h => h) (Or.inl ⟨by rfl, ?_⟩) (by assumption) ?_
  rotate_left
  · (intro w hSw; (try dsimp only at hSw); go_simp)
    (try with_reducible rfl)
  (try simp only [Act.put])
  refine wpAnyH_take (i := 6) (v := ?_) rfl (by kernel_rfl) (by kernel_rfl) (by kernel_rfl) (fun _ _ _ h => h) (Or.inl ⟨by rfl, ?_⟩) (by assumption) ?_
  rotate_left
  · (intro w hSw; (try dsimp only at hSw); go_simp)
    (try with_reducible rfl)
  (try simp only [Act.put])
  refine wpAnyH_take (i := 7) (v := ?_) rfl (by kernel_rfl) (by kernel_rfl) (by kernel_rfl) (fun _ _ _ h => h) (Or.inl ⟨by rfl, ?_⟩) (by assumption) ?_
  rotate_left
  · (intro w hSw; (try dsimp only at hSw); go_simp)
    (try with_reducible rfl)
  (try simp only [Act.put])
  refine wpAnyH_take (i := 8) (v := ?_) rfl (by kernel_rfl) (by kernel_rfl) (by kernel_rfl) (fun _ _ _ h => h) (Or.inl ⟨by rfl, ?_⟩) (by assumption) ?_
  rotate_left
  · (intro w hSw; (try dsimp only at hSw); go_simp)
    (try with_reducible rfl)
  (try simp only [Act.put])
  refine wpAnyH_take (i := 9) (v := ?_) rfl (by kernel_rfl) (by kernel_rfl) (by kernel_rfl) (fun _ _ _ h => h) (Or.inl ⟨by rfl, ?_⟩) (by assumption) ?_
  rotate_left
  · (intro w hSw; (try dsimp only at hSw); go_simp)
    (try with_reducible rfl)
  (try simp only [Act.put])
  refine wpAnyH_take (i := 10) (v := ?_) rfl (by kernel_rfl) (by kernel_rfl) (by kernel_rfl) (fun _ _ _ h => h) (Or.inl ⟨by rfl, ?_⟩) (by assumption) ?_
  rotate_left
  · (intro w hSw; (try dsimp only at hSw); go_simp)
    (try with_reducible rfl)
  (try simp only [Act.put])
  refine wpAnyH_take (i := 11) (v := ?_) rfl (by kernel_rfl) (by kernel_rfl) (by kernel_rfl) (fun _ _ _ h => h) (Or.inl ⟨by rfl, ?_⟩) (by assumption) ?_
  rotate_left
  · (intro w hSw; (try dsimp only at hSw); go_simp)
    (try with_reducible rfl)
  (try simp only [Act.put])
  refine wpAnyH_take (i := 12) (v := ?_) rfl (by kernel_rfl) (by kernel_rfl) (by kernel_rfl) (fun _ _ _ h => h) (Or.inl ⟨by rfl, ?_⟩) (by assumption) ?_
  rotate_left
  · (intro w hSw; (try dsimp only at hSw); go_simp)
    (try with_reducible rfl)
  (try simp only [Act.put])
  refine wpAnyH_take (i := 13) (v := ?_) rfl (by kernel_rfl) (by kernel_rfl) (by kernel_rfl) (fun _ _ _ h => h) (Or.inl ⟨by rfl, ?_⟩) (by assumption) ?_
  rotate_left
  · (intro w hSw; (try dsimp only at hSw); go_simp)
    (try with_reducible rfl)
  (try simp only [Act.put])
  refine wpAnyH_take (i := 14) (v := ?_) rfl (by kernel_rfl) (by kernel_rfl) (by kernel_rfl) (fun _ _ _ h => h) (Or.inl ⟨by rfl, ?_⟩) (by assumption) ?_
  rotate_left
  · (intro w hSw; (try dsimp only at hSw); go_simp)
    (try with_reducible rfl)
  (try simp only [Act.put])
  refine wpAnyH_take (i := 15) (v := ?_) rfl (by kernel_rfl) (by kernel_rfl) (by kernel_rfl) (fun _ _ _ h => h) (Or.inl ⟨by rfl, ?_⟩) (by assumption) ?_
  rotate_left
  · (intro w hSw; (try dsimp only at hSw); go_simp)
    (try with_reducible rfl)
  (try simp only [Act.put])
  refine wpAnyH_take (i := 16) (v := ?_) rfl (by kernel_rfl) (by kernel_rfl) (by kernel_rfl) (fun _ _ _ h => h) (Or.inl ⟨by rfl, ?_⟩) (by assumption) ?_
  rotate_left
  · (intro w hSw; (try dsimp only at hSw); go_simp)
    (try with_reducible rfl)
  (try simp only [Act.put])
  refine wpAnyH_ready (rs := [5, 17]) (by kernel_rfl) (by simp) ?_
  refine AllReadyH.cons (o := _) rfl (fun K hK => ?_) (AllReadyH.cons (o := _) rfl (fun K hK => ?_) AllReadyH.nil)
  · go_simp
    refine hK.out _ _ ?_ (fun hHeld => ?_)
    · (first | (go_keep; done) | ((try go_split_ands); (repeat' apply And.intro) <;> (first | (go_keep; done) | (rw [hchg.cell _ (by simp <;> omega) (by simp <;> omega)]; (first | assumption | (go_keep; done))))))
    clear hK K
    (try simp only [Act.put, List.setIfInBounds_toArray, List.set_cons_zero, List.set_cons_succ])
    refine wpAnyH_ready (rs := [17]) (by kernel_rfl) (by simp) ?_
    refine AllReadyH.cons (o := _) rfl (fun K hK => ?_) AllReadyH.nil
    go_simp
    refine hK.out _ _ ?_ (fun hHeld => ?_)
    · (first | (go_keep; done) | ((try go_split_ands); (repeat' apply And.intro) <;> (first | (go_keep; done) | (rw [hchg.cell _ (by simp <;> omega) (by simp <;> omega)]; (first | assumption | (go_keep; done))))))
    clear hK K
    (try simp only [Act.put, List.setIfInBounds_toArray, List.set_cons_zero, List.set_cons_succ])
    refine wpAnyH_ready (rs := [18]) (by kernel_rfl) (by simp) ?_
    refine AllReadyH.cons (o := _) rfl (fun K hK => ?_) AllReadyH.nil
    ((refine step_append_row _ (by rfl) _ _ _ (by rfl) 51 i0 _ 7 64 Tryd.underlying30 hi0 hz0 hz1 hz2 rfl gp s.psts.length cp _ kp (by rfl) (HS1.out.p.of_blk ((HS1.out.p.blk.alloc _).drew))
        ⟨w1.heap.size, 0, none⟩ 1 1 (Pst.cs ⟨m.seq, m.kind, m.lot, m.qty, m.cost, 0, 0⟩) (by rfl) (by rfl) (World.news_of_block (cs := #[.int .i64 m.seq, .int .i64 m.kind, .string m.lot, .int .i64 m.qty, .int .i64 m.cost, .int .i64 0, .int .i64 0]) (t := 51) (fr := (0, 0)) ((Blk.new w1 51 _).drew)) (by simp [Pst.cs, Value.oneCell'])
        (by simp [maxLen]; omega) (by omega) (w1.heap.size + 1) (by simp) ?_; intro gg cap cur1 w2 hrow hchg hat2
      obtain ⟨hx1, hf1, hs1⟩ := pstF hchg HS1.out.x HS1.out.xp (o := 4) (by rfl)))
    refine hK.out _ _ ?_ (fun hHeld => ?_)
    · (first | (go_keep; done) | ((try go_split_ands); (repeat' apply And.intro) <;> (first | (go_keep; done) | (rw [hchg.cell _ (by simp <;> omega) (by simp <;> omega)]; (first | assumption | (go_keep; done))))))
    clear hK K
    (try simp only [Act.put, List.setIfInBounds_toArray])
    refine wpAnyH_take (i := 19) (v := ?_) rfl (by kernel_rfl) (by kernel_rfl) (by kernel_rfl) (fun _ _ _ h => h) (Or.inl ⟨by rfl, ?_⟩) (by assumption) ?_
    rotate_left
    · (intro w hSw; (try dsimp only at hSw); go_simp)
      (try with_reducible rfl)
    (try simp only [Act.put])
    refine wpAnyH_take (i := 20) (v := ?_) rfl (by kernel_rfl) (by kernel_rfl) (by kernel_rfl) (fun _ _ _ h => h) (Or.inl ⟨by rfl, ?_⟩) (by assumption) ?_
    rotate_left
    · (intro w hSw; (try dsimp only at hSw); go_simp)
      (try with_reducible rfl)
    (try simp only [Act.put])
    refine wpAnyH_take (i := 21) (v := ?_) rfl (by kernel_rfl) (by kernel_rfl) (by kernel_rfl) (fun _ _ _ h => h) (Or.inl ⟨by rfl, ?_⟩) (by assumption) ?_
    rotate_left
    · (intro w hSw; (try dsimp only at hSw); go_simp)
      (try with_reducible rfl)
    (try simp only [Act.put])
    refine wpAnyH_ready (rs := [22]) (by kernel_rfl) (by simp) ?_
    refine AllReadyH.cons (o := _) rfl (fun K hK => ?_) AllReadyH.nil
    go_simp
    refine hK.out _ _ ?_ (fun hHeld => ?_)
    · (first | (go_keep; done) | ((try go_split_ands); (repeat' apply And.intro) <;> (first | (go_keep; done) | (rw [hchg.cell _ (by simp <;> omega) (by simp <;> omega)]; (first | assumption | (go_keep; done))))))
    clear hK K
    (try simp only [Act.put, List.setIfInBounds_toArray, List.set_cons_zero, List.set_cons_succ])
    refine wpAnyH_done (by kernel_rfl) ?_ _
    all_goals
      have hcp : Chg [gp] w1 w2 := (((Chg.refl [gp] w1).alloc _).drew).trans hchg (fun x hx => .inl hx)
      have hS3 := HS1.out.newp (ps' := s.psts ++ [⟨m.seq, m.kind, m.lot, m.qty, m.cost, 0, 0⟩]) hcp (by simpa [PRow, pstsC] using hrow) (by omega)
      rw [show (s.psts ++ [(⟨m.seq, m.kind, m.lot, m.qty, m.cost, 0, 0⟩ : Pst)]).length = s.psts.length + 1 by simp] at hS3
      have hM3 := (HM1.out.chg hcp (by simp; omega)).set_other (a := ⟨gx, 4, none⟩) (sl gg (s.psts.length + 1) cap) ne1
      have hC3 : Chg [gx, gp] w1 (w2.setCell ⟨gx, 4, none⟩ (sl gg (s.psts.length + 1) cap)) := (hcp.mono (by simp)).set (.inl (by simp)) _
      generalize w2.setCell ⟨gx, 4, none⟩ (sl gg (s.psts.length + 1) cap) = w3 at *
      have e4 : w3.cell? ⟨w.heap.size, 4, none⟩ = some (.int .i64 m.qty) := by rw [hM3.cell]; rfl
      have e5 : w3.cell? ⟨w.heap.size, 5, none⟩ = some (.int .i64 m.cost) := by rw [hM3.cell]; rfl
      have e14 : w3.cell? ⟨gx, 14, none⟩ = some (.int .i64 0) := by rw [hS3.x.cell]; rfl
      have e15 : w3.cell? ⟨gx, 15, none⟩ = some (.int .i64 0) := by rw [hS3.x.cell]; rfl
      have f14 := hS3.x.frozen 14
      have f15 := hS3.x.frozen 15
      have H3 := Lib.hid hS3
      have HM3 := Lib.hid hM3
      have HC3 := Lib.hid hC3
      clear hS3 hM3 hC3 hcp hrow hchg hx1 hf1 d0 d3 d4 d5 d6 g4
      go_wp2_with fail
      go_region_held3 (fun w' => w'.cell? ⟨w.heap.size, 4, none⟩ = some (.int .i64 m.qty) ∧ w'.cell? ⟨w.heap.size, 5, none⟩ = some (.int .i64 m.cost)) (go_keep) (fail)
      all_goals go_wp2_with fail
      all_goals
        go_ret
        have hS2 : Chg [gx, gl, gp] w w3 := ((Chg.of_below [gx, gl, gp] ((Below.refl _ w).alloc (Nat.le_refl _) (.cells (mCells m) 38))).trans HCH.out (by simp)).trans HC3.out (by simp)
        have hat3 := HAT.out
        simp at hat3
        have he := end2 H3.out hS2 hB (by simp; omega) b1 (by omega) (by omega) m.qty m.cost
        exact ⟨rfl, he.2.drew, fun _ => he.1.drew⟩
  · go_simp
    refine hK.out _ _ ?_ (fun hHeld => ?_)
    · (first | (go_keep; done) | ((try go_split_ands); (repeat' apply And.intro) <;> (first | (go_keep; done) | (rw [hchg.cell _ (by simp <;> omega) (by simp <;> omega)]; (first | assumption | (go_keep; done))))))
    clear hK K
    (try simp only [Act.put, List.setIfInBounds_toArray, List.set_cons_zero, List.set_cons_succ])
    refine wpAnyH_ready (rs := [5]) (by kernel_rfl) (by simp) ?_
    refine AllReadyH.cons (o := _) rfl (fun K hK => ?_) AllReadyH.nil
    go_simp
    refine hK.out _ _ ?_ (fun hHeld => ?_)
    · (first | (go_keep; done) | ((try go_split_ands); (repeat' apply And.intro) <;> (first | (go_keep; done) | (rw [hchg.cell _ (by simp <;> omega) (by simp <;> omega)]; (first | assumption | (go_keep; done))))))
    clear hK K
    (try simp only [Act.put, List.setIfInBounds_toArray, List.set_cons_zero, List.set_cons_succ])
    refine wpAnyH_ready (rs := [18]) (by kernel_rfl) (by simp) ?_
    refine AllReadyH.cons (o := _) rfl (fun K hK => ?_) AllReadyH.nil
    ((refine step_append_row _ (by rfl) _ _ _ (by rfl) 51 i0 _ 7 64 Tryd.underlying30 hi0 hz0 hz1 hz2 rfl gp s.psts.length cp _ kp (by rfl) (HS1.out.p.of_blk ((HS1.out.p.blk.alloc _).drew))
        ⟨w1.heap.size, 0, none⟩ 1 1 (Pst.cs ⟨m.seq, m.kind, m.lot, m.qty, m.cost, 0, 0⟩) (by rfl) (by rfl) (World.news_of_block (cs := #[.int .i64 m.seq, .int .i64 m.kind, .string m.lot, .int .i64 m.qty, .int .i64 m.cost, .int .i64 0, .int .i64 0]) (t := 51) (fr := (0, 0)) ((Blk.new w1 51 _).drew)) (by simp [Pst.cs, Value.oneCell'])
        (by simp [maxLen]; omega) (by omega) (w1.heap.size + 1) (by simp) ?_; intro gg cap cur1 w2 hrow hchg hat2
      obtain ⟨hx1, hf1, hs1⟩ := pstF hchg HS1.out.x HS1.out.xp (o := 4) (by rfl)))
    refine hK.out _ _ ?_ (fun hHeld => ?_)
    · (first | (go_keep; done) | ((try go_split_ands); (repeat' apply And.intro) <;> (first | (go_keep; done) | (rw [hchg.cell _ (by simp <;> omega) (by simp <;> omega)]; (first | assumption | (go_keep; done))))))
    clear hK K
    (try simp only [Act.put, List.setIfInBounds_toArray])
    refine wpAnyH_take (i := 19) (v := ?_) rfl (by kernel_rfl) (by kernel_rfl) (by kernel_rfl) (fun _ _ _ h => h) (Or.inl ⟨by rfl, ?_⟩) (by assumption) ?_
    rotate_left
    · (intro w hSw; (try dsimp only at hSw); go_simp)
      (try with_reducible rfl)
    (try simp only [Act.put])
    refine wpAnyH_take (i := 20) (v := ?_) rfl (by kernel_rfl) (by kernel_rfl) (by kernel_rfl) (fun _ _ _ h => h) (Or.inl ⟨by rfl, ?_⟩) (by assumption) ?_
    rotate_left
    · (intro w hSw; (try dsimp only at hSw); go_simp)
      (try with_reducible rfl)
    (try simp only [Act.put])
    refine wpAnyH_take (i := 21) (v := ?_) rfl (by kernel_rfl) (by kernel_rfl) (by kernel_rfl) (fun _ _ _ h => h) (Or.inl ⟨by rfl, ?_⟩) (by assumption) ?_
    rotate_left
    · (intro w hSw; (try dsimp only at hSw); go_simp)
      (try with_reducible rfl)
    (try simp only [Act.put])
    refine wpAnyH_ready (rs := [22]) (by kernel_rfl) (by simp) ?_
    refine AllReadyH.cons (o := _) rfl (fun K hK => ?_) AllReadyH.nil
    go_simp
    refine hK.out _ _ ?_ (fun hHeld => ?_)
    · (first | (go_keep; done) | ((try go_split_ands); (repeat' apply And.intro) <;> (first | (go_keep; done) | (rw [hchg.cell _ (by simp <;> omega) (by simp <;> omega)]; (first | assumption | (go_keep; done))))))
    clear hK K
    (try simp only [Act.put, List.setIfInBounds_toArray, List.set_cons_zero, List.set_cons_succ])
    refine wpAnyH_done (by kernel_rfl) ?_ _
    all_goals
      have hcp : Chg [gp] w1 w2 := (((Chg.refl [gp] w1).alloc _).drew).trans hchg (fun x hx => .inl hx)
      have hS3 := HS1.out.newp (ps' := s.psts ++ [⟨m.seq, m.kind, m.lot, m.qty, m.cost, 0, 0⟩]) hcp (by simpa [PRow, pstsC] using hrow) (by omega)
      rw [show (s.psts ++ [(⟨m.seq, m.kind, m.lot, m.qty, m.cost, 0, 0⟩ : Pst)]).length = s.psts.length + 1 by simp] at hS3
      have hM3 := (HM1.out.chg hcp (by simp; omega)).set_other (a := ⟨gx, 4, none⟩) (sl gg (s.psts.length + 1) cap) ne1
      have hC3 : Chg [gx, gp] w1 (w2.setCell ⟨gx, 4, none⟩ (sl gg (s.psts.length + 1) cap)) := (hcp.mono (by simp)).set (.inl (by simp)) _
      generalize w2.setCell ⟨gx, 4, none⟩ (sl gg (s.psts.length + 1) cap) = w3 at *
      have e4 : w3.cell? ⟨w.heap.size, 4, none⟩ = some (.int .i64 m.qty) := by rw [hM3.cell]; rfl
      have e5 : w3.cell? ⟨w.heap.size, 5, none⟩ = some (.int .i64 m.cost) := by rw [hM3.cell]; rfl
      have e14 : w3.cell? ⟨gx, 14, none⟩ = some (.int .i64 0) := by rw [hS3.x.cell]; rfl
      have e15 : w3.cell? ⟨gx, 15, none⟩ = some (.int .i64 0) := by rw [hS3.x.cell]; rfl
      have f14 := hS3.x.frozen 14
      have f15 := hS3.x.frozen 15
      have H3 := Lib.hid hS3
      have HM3 := Lib.hid hM3
      have HC3 := Lib.hid hC3
      clear hS3 hM3 hC3 hcp hrow hchg hx1 hf1 d0 d3 d4 d5 d6 g4
      go_wp2_with fail
      go_region_held3 (fun w' => w'.cell? ⟨w.heap.size, 4, none⟩ = some (.int .i64 m.qty) ∧ w'.cell? ⟨w.heap.size, 5, none⟩ = some (.int .i64 m.cost)) (go_keep) (fail)
      all_goals go_wp2_with fail
      all_goals
        go_ret
        have hS2 : Chg [gx, gl, gp] w w3 := ((Chg.of_below [gx, gl, gp] ((Below.refl _ w).alloc (Nat.le_refl _) (.cells (mCells m) 38))).trans HCH.out (by simp)).trans HC3.out (by simp)
        have hat3 := HAT.out
        simp at hat3
        have he := end2 H3.out hS2 hB (by simp; omega) b1 (by omega) (by omega) m.qty m.cost
        exact ⟨rfl, he.2.drew, fun _ => he.1.drew⟩
end Go.Proofs.YtboiipkbhbbgfaaDoor
