/- The walk of fifo's issue. -/
import Derived.Test.YtboiipkbhbbgfaaDoorG6
namespace Go.Proofs.YtboiipkbhbbgfaaDoor
open Go.RowKit

def LaysOk (ls : List Lay) : Prop := ∀ l ∈ ls, I64 l.qty ∧ I64 l.val

/-- what the loop of an issue keeps -/
def IssR (w0 : World) (gx gl gp cp : Nat) (s : Stk) (m : Mov) (kp : Array Value) (R : Int × List Lay) (g : Nat) (left v : Int) (ls : List Lay) (gl' cl' : Nat) (kl' : Array Value) (wr : World) : Prop :=
  issueM ls left v = R ∧ g = 2 * ls.length + (if 0 < left then 1 else 0) ∧ LaysOk ls ∧ I64 left ∧ ls.length ≤ 1000 ∧
    St wr gx gl' gp cl' cp { s with lays := ls } m (c0 m) kl' kp ∧ Chg [gx, gl] w0 wr ∧ (gl' = gl ∨ w0.heap.size ≤ gl')

theorem iss_end {ls : List Lay} {left v : Int} {R : Int × List Lay} (h : issueM ls left v = R) (he : left ≤ 0 ∨ ls = []) : R = (v, ls) := by
  rw [← h]
  cases ls with
  | nil => rfl
  | cons l ls =>
    rcases he with he | he
    · rw [issueM, if_pos he]
    · cases he

/-- a round that uses up the first layer -/
theorem iss_all {l : Lay} {ls : List Lay} {left v : Int} {R : Int × List Lay} (h : issueM (l :: ls) left v = R) (h0 : ¬ left ≤ 0) (hq : l.qty ≤ left) :
    (takeM (l :: ls) 0 l.qty).1 = l.val ∧ (takeM (l :: ls) 0 l.qty).2 = ls ∧ issueM ls (wrap64 (left - l.qty)) (wrap64 (v + l.val)) = R := by
  refine ⟨by simp [takeM, partM], by simp [takeM, wrap64], ?_⟩
  rw [issueM, if_neg h0, if_pos hq] at h
  exact h
theorem iss_part {l : Lay} {ls : List Lay} {left v : Int} {R : Int × List Lay} (h : issueM (l :: ls) left v = R) (h0 : ¬ left ≤ 0) (hq : ¬ l.qty ≤ left) (hl : I64 left) (hlq : I64 l.qty) :
    (takeM (l :: ls) 0 left).2 = { l with qty := wrap64 (l.qty - left), val := wrap64 (l.val - partM l.val left l.qty) } :: ls ∧
      issueM ((takeM (l :: ls) 0 left).2) (wrap64 (left - left)) (wrap64 (v + (takeM (l :: ls) 0 left).1)) = R := by
  have hw : wrap64 (l.qty - left) = l.qty - left := by unfold wrap64 I64 at *; omega
  have h1 : (takeM (l :: ls) 0 left).2 = { l with qty := wrap64 (l.qty - left), val := wrap64 (l.val - partM l.val left l.qty) } :: ls := by
    simp only [takeM, List.getD_cons_zero]
    rw [if_neg (by omega)]
    rfl
  refine ⟨h1, ?_⟩
  rw [h1, issueM, if_pos (by simp [wrap64]), ← h, issueM, if_neg h0, if_neg hq, hw]
  simp [takeM]

set_option maxRecDepth 100000 in
set_option maxHeartbeats 8000000 in
theorem issue_any (B gx gl gp cl cp : Nat) (s : Stk) (m : Mov) (kl kp : Array Value) (w : World) (h : St w gx gl gp cl cp s m (c0 m) kl kp) (hn : s.lays.length ≤ 1000) (hnp : s.psts.length ≤ 1000) (hB : B ≤ w.heap.size) (b1 : B ≤ gx) (b2 : B ≤ gl) (b3 : B ≤ gp)
    (hok : LaysOk s.lays) (hq : I64 m.qty) :
    Calls Tryd.prog 32 #[.pointer (some ⟨gx, 0, none⟩)] w fun e w' => MPost B gx s m (issueStepM s m) w e w' := by
  obtain ⟨i0, hi0, hz0, hz1, hz2⟩ := info_parts Tryd.info51
  have lx := h.x.lt
  have lg := h.l.blk.lt
  have lgp := h.p.blk.lt
  have hx := h.x.cell
  have c00 : w.cell? ⟨gx, 0, none⟩ = some (.int .i64 s.qty) := by rw [hx]; rfl
  have c5 : w.cell? ⟨gx, 5, none⟩ = some (.int .i64 m.seq) := by rw [hx]; rfl
  have c6 : w.cell? ⟨gx, 6, none⟩ = some (.int .i64 m.value) := by rw [hx]; rfl
  have c7 : w.cell? ⟨gx, 7, none⟩ = some (.string m.item) := by rw [hx]; rfl
  have c8 : w.cell? ⟨gx, 8, none⟩ = some (.int .i64 m.kind) := by rw [hx]; rfl
  have c9 : w.cell? ⟨gx, 9, none⟩ = some (.int .i64 m.qty) := by rw [hx]; rfl
  have c10 : w.cell? ⟨gx, 10, none⟩ = some (.int .i64 m.cost) := by rw [hx]; rfl
  have c11 : w.cell? ⟨gx, 11, none⟩ = some (.string m.lot) := by rw [hx]; rfl
  have c12 : w.cell? ⟨gx, 12, none⟩ = some (.int .i64 m.ref) := by rw [hx]; rfl
  clear hx
  have ne1 : gx ≠ w.heap.size := by omega
  have ne2 : w.heap.size ≠ gx := by omega
  have HS := Lib.hid h; clear h
  by_cases hlt : s.qty < m.qty
  · have hlt' : decide (s.qty < m.qty) = true := by simpa using hlt
    have HE := Lib.hid (show issueStepM s m = bad 21 s m by unfold issueStepM; rw [if_pos hlt]); clear hlt
    rw [HE.out]
    go_enter Tryd.func32, Tryd.ntmps32
    go_wp2_with fail
    refine still_tail2 7 (by kernel_rfl) (by kernel_rfl) ?_
    simp only [List.take_succ_cons, List.take_zero, List.drop_succ_cons, List.drop_zero]
    repeat still_step
    refine wpStill_nil ?_
    go_wp2_with fail
    go_ret
    exact ⟨rfl, (((Below.refl B w).alloc hB _).drew), fun h => by cases h⟩
  · have hlt' : decide (s.qty < m.qty) = false := by simpa using hlt
    have HE := Lib.hid (show issueStepM s m = ⟨0, (issueM s.lays m.qty 0).2, s.psts ++ [⟨m.seq, m.kind, m.lot, m.qty, (issueM s.lays m.qty 0).1, 0, 0⟩], ⟨m.seq, wrap64 (-m.qty), wrap64 (-(issueM s.lays m.qty 0).1), 0⟩⟩ by unfold issueStepM; rw [if_neg hlt]); clear hlt
    rw [HE.out]
    generalize hR : issueM s.lays m.qty 0 = R at *
    have HR := Lib.hid hR; clear hR
    go_enter Tryd.func32, Tryd.ntmps32
    go_wp2_with fail
    refine still_tail2 7 (by kernel_rfl) (by kernel_rfl) ?_
    simp only [List.take_succ_cons, List.take_zero, List.drop_succ_cons, List.drop_zero]
    repeat still_step
    refine wpStill_nil ?_
    go_wp2_with fail
    have hal : St (w.alloc (.cells (mCells m) 38)).drew gx gl gp cl cp s m (c0 m) kl kp := (HS.out.below' ((Below.refl _ _).alloc (Nat.le_refl _) _)).drew
    have HAL := Lib.hid hal; clear hal
    generalize hW : (w.alloc (.cells (mCells m) 38)).drew = w0 at *
    have hWs : w0.heap.size = w.heap.size + 1 := by rw [← hW]; simp
    have hm0 : Blk w0 w.heap.size 38 (mCells m) := by rw [← hW]; exact (Blk.new w 38 (mCells m)).drew
    have hc0 : Chg [] w w0 := by rw [← hW]; exact (((Chg.refl _ _).alloc _).drew)
    have HM := Lib.hid hm0; have HC := Lib.hid hc0; clear hm0 hc0 hW
    go_loopg [4, 5] (2 * s.lays.length + (if 0 < m.qty then 1 else 0)) (fun g a b wr => ∃ left v ls gl' cl' kl', a = .int .i64 left ∧ b = .int .i64 v ∧ IssR w0 gx gl gp cp s m kp R g left v ls gl' cl' kl' wr)
    case atStart => exact ⟨m.qty, 0, s.lays, gl, cl, kl, rfl, rfl, HR.out, rfl, hok, hq, hn, HAL.out, Chg.refl _ _, .inl rfl⟩
    case round =>
      obtain ⟨left, v, ls, gl', cl', kl', rfl, rfl, hI⟩ := hrel
      obtain ⟨i1, i2, i3, i4, i5, i6, i7, i8⟩ := hI
      have hxr := i6.x.lt
      have y0 : wr.cell? ⟨gx, 3, none⟩ = some (sl gl' ls.length cl') := by rw [i6.x.cell]; rfl
      have I1 := Lib.hid i1; have I2 := Lib.hid i2; have I3 := Lib.hid i3; have I6 := Lib.hid i6; have I7 := Lib.hid i7; have I8 := Lib.hid i8; clear i1 i2 i3 i6 i7 i8
      by_cases h0 : left ≤ 0
      · have t : decide (0 < left) = false := by simpa using h0
        have HX := Lib.hid (iss_end I1.out (.inl h0)); clear h0
        have hR1 : R.1 = v := by rw [HX.out]
        have hR2 : R.2 = ls := by rw [HX.out]
        have HR1 := Lib.hid hR1; have HR2 := Lib.hid hR2; clear hR1 hR2
        have hm1 : Blk wr w.heap.size 38 (mCells m) := HM.out.chg I7.out (by simp; omega)
        have d0 : wr.cell? ⟨w.heap.size, 0, none⟩ = some (.int .i64 m.seq) := by rw [hm1.cell]; rfl
        have d3 : wr.cell? ⟨w.heap.size, 3, none⟩ = some (.int .i64 m.kind) := by rw [hm1.cell]; rfl
        have d4 : wr.cell? ⟨w.heap.size, 4, none⟩ = some (.int .i64 m.qty) := by rw [hm1.cell]; rfl
        have d6 : wr.cell? ⟨w.heap.size, 6, none⟩ = some (.string m.lot) := by rw [hm1.cell]; rfl
        have g4 : wr.cell? ⟨gx, 4, none⟩ = some (sl gp s.psts.length cp) := by rw [I6.out.x.cell]; rfl
        have n4 := World.new_ne wr _ g4
        have n0 := World.new_ne wr _ d0
        have hlt1 := hm1.lt
        have HM1 := Lib.hid hm1; clear hm1
        go_wp2_with fail
        refine wp_region_held_drew (S := (fun w' => w'.cell? ⟨w.heap.size, 0, none⟩ = some (.int .i64 m.seq) ∧ w'.cell? ⟨w.heap.size, 3, none⟩ = some (.int .i64 m.kind) ∧ w'.cell? ⟨w.heap.size, 4, none⟩ = some (.int .i64 m.qty) ∧ w'.cell? ⟨w.heap.size, 6, none⟩ = some (.string m.lot))) (by kernel_rfl) (by (first | (go_keep; done) | ((try go_split_ands); (repeat' apply And.intro) <;> (first | (go_keep; done) | (rw [hchg.cell _ (by simp <;> omega) (by simp <;> omega)]; (first | assumption | (go_keep; done))))))) (fun hHeld => ?_)
        refine wpAnyH_take (i := 0) (v := ?_) rfl (by kernel_rfl) (by kernel_rfl) (by kernel_rfl) (fun _ _ _ h => h) (Or.inl ⟨by rfl, ?_⟩) (by assumption) ?_
        rotate_left
        · (intro w hSw; (try dsimp only at hSw); go_simp)
          (try with_reducible rfl)
        (try simp only [Act.put, List.setIfInBounds_toArray])
        refine wpAnyH_take (i := 1) (v := ?_) rfl (by kernel_rfl) (by kernel_rfl) (by kernel_rfl) (fun _ _ _ h => h) (Or.inl ⟨by rfl, ?_⟩) (by assumption) ?_
        rotate_left
        · (intro w hSw; (try dsimp only at hSw); go_simp)
          (try with_reducible rfl)
        (try simp only [Act.put])
        refine wpAnyH_take (i := 2) (v := ?_) rfl (by kernel_rfl) (by kernel_rfl) (by kernel_rfl) (fun _ _ _ h => h) (Or.inl ⟨by rfl, ?_⟩) (by assumption) ?_
        rotate_left
        · (intro w hSw; (try dsimp only at hSw); go_simp)
          (try with_reducible rfl)
        (try simp only [Act.put])
        refine wpAnyH_take (i := 3) (v := ?_) rfl (by kernel_rfl) (by kernel_rfl) (by kernel_rfl) (fun _ _ _ h => h) (Or.inl ⟨by rfl, ?_⟩) (by assumption) ?_
        rotate_left
        · (intro w hSw; (try dsimp only at hSw); go_simp)
          (try with_reducible rfl)
        (try simp only [Act.put])
        refine wpAnyH_take (i := 4) (v := ?_) rfl (by kernel_rfl) (by kernel_rfl) (by kernel_rfl) (fun _ _ _ h => h) (Or.inl ⟨by rfl, ?_⟩) (by assumption) ?_
        rotate_left
        · (intro w hSw; (try dsimp only at hSw); go_simp)
          (try with_reducible rfl)
        (try simp only [Act.put])
        refine wpAnyH_take (i := 6) (v := ?_) rfl (by kernel_rfl) (by kernel_rfl) (by kernel_rfl) (fun _ _ _ h => h) (Or.inl ⟨by rfl, ?_⟩) (by assumption) ?_
        rotate_left
        · (intro w hSw; (try dsimp only at hSw); go_simp)
          (try with_reducible rfl)
        (try simp only [Act.put])
        refine wpAnyH_take (i := 7) (v := ?_) rfl (by kernel_rfl) (by kernel_rfl) (by kernel_rfl) (fun _ _ _ h => h) (Or.inl ⟨by rfl, ?_⟩) (by assumption) ?_
        rotate_left
        · (intro w hSw; (try dsimp only at hSw); go_simp)
          (try with_reducible rfl)
        (try simp only [Act.put])
        refine wpAnyH_take (i := 8) (v := ?_) rfl (by kernel_rfl) (by kernel_rfl) (by kernel_rfl) (fun _ _ _ h => h) (Or.inl ⟨by rfl, ?_⟩) (by assumption) ?_
        rotate_left
        · (intro w hSw; (try dsimp only at hSw); go_simp)
          (try with_reducible rfl)
        (try simp only [Act.put])
        refine wpAnyH_take (i := 9) (v := ?_) rfl (by kernel_rfl) (by kernel_rfl) (by kernel_rfl) (fun _ _ _ h => h) (Or.inl ⟨by rfl, ?_⟩) (by assumption) ?_
        rotate_left
        · (intro w hSw; (try dsimp only at hSw); go_simp)
          (try with_reducible rfl)
        (try simp only [Act.put])
        refine wpAnyH_take (i := 10) (v := ?_) rfl (by kernel_rfl) (by kernel_rfl) (by kernel_rfl) (fun _ _ _ h => h) (Or.inl ⟨by rfl, ?_⟩) (by assumption) ?_
        rotate_left
        · (intro w hSw; (try dsimp only at hSw); go_simp)
          (try with_reducible rfl)
        (try simp only [Act.put])
        refine wpAnyH_take (i := 11) (v := ?_) rfl (by kernel_rfl) (by kernel_rfl) (by kernel_rfl) (fun _ _ _ h => h) (Or.inl ⟨by rfl, ?_⟩) (by assumption) ?_
        rotate_left
        · (intro w hSw; (try dsimp only at hSw); go_simp)
          (try with_reducible rfl)
        (try simp only [Act.put])
        refine wpAnyH_take (i := 12) (v := ?_) rfl (by kernel_rfl) (by kernel_rfl) (by kernel_rfl) (fun _ _ _ h => h) (Or.inl ⟨by rfl, ?_⟩) (by assumption) ?_
        rotate_left
        · (intro w hSw; (try dsimp only at hSw); go_simp)
          (try with_reducible rfl)
        (try simp only [Act.put])
        refine wpAnyH_take (i := 13) (v := ?_) rfl (by kernel_rfl) (by kernel_rfl) (by kernel_rfl) (fun _ _ _ h => h) (Or.inl ⟨by rfl, ?_⟩) (by assumption) ?_
        rotate_left
        · (intro w hSw; (try dsimp only at hSw); go_simp)
          (try with_reducible rfl)
        (try simp only [Act.put])
        refine wpAnyH_take (i := 14) (v := ?_) rfl (by kernel_rfl) (by kernel_rfl) (by kernel_rfl) (fun _ _ _ h => h) (Or.inl ⟨by rfl, ?_⟩) (by assumption) ?_
        rotate_left
        · (intro w hSw; (try dsimp only at hSw); go_simp)
          (try with_reducible rfl)
        (try simp only [Act.put])
        refine wpAnyH_take (i := 15) (v := ?_) rfl (by kernel_rfl) (by kernel_rfl) (by kernel_rfl) (fun _ _ _ h => h) (Or.inl ⟨by rfl, ?_⟩) (by assumption) ?_
        rotate_left
        · (intro w hSw; (try dsimp only at hSw); go_simp)
          (try with_reducible rfl)
        (try simp only [Act.put])
        refine wpAnyH_ready (rs := [5, 16]) (by kernel_rfl) (by simp) ?_
        refine AllReadyH.cons (o := _) rfl (fun K hK => ?_) (AllReadyH.cons (o := _) rfl (fun K hK => ?_) AllReadyH.nil)
        · go_simp
          refine hK.out _ _ ?_ (fun hHeld => ?_)
          · (first | (go_keep; done) | ((try go_split_ands); (repeat' apply And.intro) <;> (first | (go_keep; done) | (rw [hchg.cell _ (by simp <;> omega) (by simp <;> omega)]; (first | assumption | (go_keep; done))))))
          clear hK K
          (try simp only [Act.put, List.setIfInBounds_toArray, List.set_cons_zero, List.set_cons_succ])
          refine wpAnyH_ready (rs := [16]) (by kernel_rfl) (by simp) ?_
          refine AllReadyH.cons (o := _) rfl (fun K hK => ?_) AllReadyH.nil
          go_simp
          refine hK.out _ _ ?_ (fun hHeld => ?_)
          · (first | (go_keep; done) | ((try go_split_ands); (repeat' apply And.intro) <;> (first | (go_keep; done) | (rw [hchg.cell _ (by simp <;> omega) (by simp <;> omega)]; (first | assumption | (go_keep; done))))))
          clear hK K
          (try simp only [Act.put, List.setIfInBounds_toArray, List.set_cons_zero, List.set_cons_succ])
          refine wpAnyH_ready (rs := [17]) (by kernel_rfl) (by simp) ?_
          refine AllReadyH.cons (o := _) rfl (fun K hK => ?_) AllReadyH.nil
          ((refine step_append_row _ (by rfl) _ _ _ (by rfl) 51 i0 _ 7 64 Tryd.underlying30 hi0 hz0 hz1 hz2 rfl gp s.psts.length cp _ kp (by rfl) (I6.out.p.of_blk ((I6.out.p.blk.alloc _).drew))
              ⟨wr.heap.size, 0, none⟩ 1 1 (Pst.cs ⟨m.seq, m.kind, m.lot, m.qty, v, 0, 0⟩) (by rfl) (by rfl) (World.news_of_block (cs := #[.int .i64 m.seq, .int .i64 m.kind, .string m.lot, .int .i64 m.qty, .int .i64 v, .int .i64 0, .int .i64 0]) (t := 51) (fr := (0, 0)) ((Blk.new wr 51 _).drew)) (by simp [Pst.cs, Value.oneCell'])
              (by simp [maxLen]; omega) (by omega) (wr.heap.size + 1) (by simp) ?_; intro gg cap cur1 w2 hrow hchg hat2
            obtain ⟨hx1, hf1, hs1⟩ := pstF hchg I6.out.x I6.out.xp (o := 4) (by rfl)))
          refine hK.out _ _ ?_ (fun hHeld => ?_)
          · (first | (go_keep; done) | ((try go_split_ands); (repeat' apply And.intro) <;> (first | (go_keep; done) | (rw [hchg.cell _ (by simp <;> omega) (by simp <;> omega)]; (first | assumption | (go_keep; done))))))
          clear hK K
          (try simp only [Act.put, List.setIfInBounds_toArray])
          refine wpAnyH_take (i := 18) (v := ?_) rfl (by kernel_rfl) (by kernel_rfl) (by kernel_rfl) (fun _ _ _ h => h) (Or.inl ⟨by rfl, ?_⟩) (by assumption) ?_
          rotate_left
          · (intro w hSw; (try dsimp only at hSw); go_simp)
            (try with_reducible rfl)
          (try simp only [Act.put])
          refine wpAnyH_take (i := 19) (v := ?_) rfl (by kernel_rfl) (by kernel_rfl) (by kernel_rfl) (fun _ _ _ h => h) (Or.inl ⟨by rfl, ?_⟩) (by assumption) ?_
          rotate_left
          · (intro w hSw; (try dsimp only at hSw); go_simp)
            (try with_reducible rfl)
          (try simp only [Act.put])
          refine wpAnyH_take (i := 20) (v := ?_) rfl (by kernel_rfl) (by kernel_rfl) (by kernel_rfl) (fun _ _ _ h => h) (Or.inl ⟨by rfl, ?_⟩) (by assumption) ?_
          rotate_left
          · (intro w hSw; (try dsimp only at hSw); go_simp)
            (try with_reducible rfl)
          (try simp only [Act.put])
          refine wpAnyH_ready (rs := [21]) (by kernel_rfl) (by simp) ?_
          refine AllReadyH.cons (o := _) rfl (fun K hK => ?_) AllReadyH.nil
          go_simp
          refine hK.out _ _ ?_ (fun hHeld => ?_)
          · (first | (go_keep; done) | ((try go_split_ands); (repeat' apply And.intro) <;> (first | (go_keep; done) | (rw [hchg.cell _ (by simp <;> omega) (by simp <;> omega)]; (first | assumption | (go_keep; done))))))
          clear hK K
          (try simp only [Act.put, List.setIfInBounds_toArray, List.set_cons_zero, List.set_cons_succ])
          refine wpAnyH_done (by kernel_rfl) ?_ _
          all_goals
            have hcp : Chg [gp] wr w2 := (((Chg.refl [gp] wr).alloc _).drew).trans hchg (fun x hx => .inl hx)
            have hS3 := I6.out.newp (ps' := s.psts ++ [⟨m.seq, m.kind, m.lot, m.qty, v, 0, 0⟩]) hcp (by simpa [PRow, pstsC] using hrow) (by omega)
            rw [show (s.psts ++ [(⟨m.seq, m.kind, m.lot, m.qty, v, 0, 0⟩ : Pst)]).length = s.psts.length + 1 by simp] at hS3
            have hM3 := (HM1.out.chg hcp (by simp; omega)).set_other (a := ⟨gx, 4, none⟩) (sl gg (s.psts.length + 1) cap) ne1
            have hC3 : Chg [gx, gp] wr (w2.setCell ⟨gx, 4, none⟩ (sl gg (s.psts.length + 1) cap)) := (hcp.mono (by simp)).set (.inl (by simp)) _
            generalize w2.setCell ⟨gx, 4, none⟩ (sl gg (s.psts.length + 1) cap) = w3 at *
            have e4 : w3.cell? ⟨w.heap.size, 4, none⟩ = some (.int .i64 m.qty) := by rw [hM3.cell]; rfl
            have e14 : w3.cell? ⟨gx, 14, none⟩ = some (.int .i64 0) := by rw [hS3.x.cell]; rfl
            have e15 : w3.cell? ⟨gx, 15, none⟩ = some (.int .i64 0) := by rw [hS3.x.cell]; rfl
            have f14 := hS3.x.frozen 14
            have f15 := hS3.x.frozen 15
            have H3 := Lib.hid hS3
            have HM3 := Lib.hid hM3
            have HC3 := Lib.hid hC3
            clear hS3 hM3 hC3 hcp hrow hchg hx1 hf1 d0 d3 d4 d6 g4
            go_wp2_with fail
            go_ret
            rw [HR1.out, HR2.out]
            have hS2 : Chg [gx, gl, gp] w w3 := ((HC.out.mono (T := [gx, gl, gp]) (by simp)).trans I7.out (by simp)).trans HC3.out (by simp)
            have hat3 := I8.out
            have he := end2 H3.out hS2 hB (by simp; omega) b1 (by omega) (by omega) (wrap64 (-m.qty)) (wrap64 (-v))
            exact ⟨rfl, he.2, fun _ => he.1⟩
        · go_simp
          refine hK.out _ _ ?_ (fun hHeld => ?_)
          · (first | (go_keep; done) | ((try go_split_ands); (repeat' apply And.intro) <;> (first | (go_keep; done) | (rw [hchg.cell _ (by simp <;> omega) (by simp <;> omega)]; (first | assumption | (go_keep; done))))))
          clear hK K
          (try simp only [Act.put, List.setIfInBounds_toArray, List.set_cons_zero, List.set_cons_succ])
          refine wpAnyH_ready (rs := [5]) (by kernel_rfl) (by simp) ?_
          refine AllReadyH.cons (o := _) rfl (fun K hK => ?_) AllReadyH.nil
          go_simp
          refine hK.out _ _ ?_ (fun hHeld => ?_)
          · (first | (go_keep; done) | ((try go_split_ands); (repeat' apply And.intro) <;> (first | (go_keep; done) | (rw [hchg.cell _ (by simp <;> omega) (by simp <;> omega)]; (first | assumption | (go_keep; done))))))
          clear hK K
          (try simp only [Act.put, List.setIfInBounds_toArray, List.set_cons_zero, List.set_cons_succ])
          refine wpAnyH_ready (rs := [17]) (by kernel_rfl) (by simp) ?_
          refine AllReadyH.cons (o := _) rfl (fun K hK => ?_) AllReadyH.nil
          ((refine step_append_row _ (by rfl) _ _ _ (by rfl) 51 i0 _ 7 64 Tryd.underlying30 hi0 hz0 hz1 hz2 rfl gp s.psts.length cp _ kp (by rfl) (I6.out.p.of_blk ((I6.out.p.blk.alloc _).drew))
              ⟨wr.heap.size, 0, none⟩ 1 1 (Pst.cs ⟨m.seq, m.kind, m.lot, m.qty, v, 0, 0⟩) (by rfl) (by rfl) (World.news_of_block (cs := #[.int .i64 m.seq, .int .i64 m.kind, .string m.lot, .int .i64 m.qty, .int .i64 v, .int .i64 0, .int .i64 0]) (t := 51) (fr := (0, 0)) ((Blk.new wr 51 _).drew)) (by simp [Pst.cs, Value.oneCell'])
              (by simp [maxLen]; omega) (by omega) (wr.heap.size + 1) (by simp) ?_; intro gg cap cur1 w2 hrow hchg hat2
            obtain ⟨hx1, hf1, hs1⟩ := pstF hchg I6.out.x I6.out.xp (o := 4) (by rfl)))
          refine hK.out _ _ ?_ (fun hHeld => ?_)
          · (first | (go_keep; done) | ((try go_split_ands); (repeat' apply And.intro) <;> (first | (go_keep; done) | (rw [hchg.cell _ (by simp <;> omega) (by simp <;> omega)]; (first | assumption | (go_keep; done))))))
          clear hK K
          (try simp only [Act.put, List.setIfInBounds_toArray])
          refine wpAnyH_take (i := 18) (v := ?_) rfl (by kernel_rfl) (by kernel_rfl) (by kernel_rfl) (fun _ _ _ h => h) (Or.inl ⟨by rfl, ?_⟩) (by assumption) ?_
          rotate_left
          · (intro w hSw; (try dsimp only at hSw); go_simp)
            (try with_reducible rfl)
          (try simp only [Act.put])
          refine wpAnyH_take (i := 19) (v := ?_) rfl (by kernel_rfl) (by kernel_rfl) (by kernel_rfl) (fun _ _ _ h => h) (Or.inl ⟨by rfl, ?_⟩) (by assumption) ?_
          rotate_left
          · (intro w hSw; (try dsimp only at hSw); go_simp)
            (try with_reducible rfl)
          (try simp only [Act.put])
          refine wpAnyH_take (i := 20) (v := ?_) rfl (by kernel_rfl) (by kernel_rfl) (by kernel_rfl) (fun _ _ _ h => h) (Or.inl ⟨by rfl, ?_⟩) (by assumption) ?_
          rotate_left
          · (intro w hSw; (try dsimp only at hSw); go_simp)
            (try with_reducible rfl)
          (try simp only [Act.put])
          refine wpAnyH_ready (rs := [21]) (by kernel_rfl) (by simp) ?_
          refine AllReadyH.cons (o := _) rfl (fun K hK => ?_) AllReadyH.nil
          go_simp
          refine hK.out _ _ ?_ (fun hHeld => ?_)
          · (first | (go_keep; done) | ((try go_split_ands); (repeat' apply And.intro) <;> (first | (go_keep; done) | (rw [hchg.cell _ (by simp <;> omega) (by simp <;> omega)]; (first | assumption | (go_keep; done))))))
          clear hK K
          (try simp only [Act.put, List.setIfInBounds_toArray, List.set_cons_zero, List.set_cons_succ])
          refine wpAnyH_done (by kernel_rfl) ?_ _
          all_goals
            have hcp : Chg [gp] wr w2 := (((Chg.refl [gp] wr).alloc _).drew).trans hchg (fun x hx => .inl hx)
            have hS3 := I6.out.newp (ps' := s.psts ++ [⟨m.seq, m.kind, m.lot, m.qty, v, 0, 0⟩]) hcp (by simpa [PRow, pstsC] using hrow) (by omega)
            rw [show (s.psts ++ [(⟨m.seq, m.kind, m.lot, m.qty, v, 0, 0⟩ : Pst)]).length = s.psts.length + 1 by simp] at hS3
            have hM3 := (HM1.out.chg hcp (by simp; omega)).set_other (a := ⟨gx, 4, none⟩) (sl gg (s.psts.length + 1) cap) ne1
            have hC3 : Chg [gx, gp] wr (w2.setCell ⟨gx, 4, none⟩ (sl gg (s.psts.length + 1) cap)) := (hcp.mono (by simp)).set (.inl (by simp)) _
            generalize w2.setCell ⟨gx, 4, none⟩ (sl gg (s.psts.length + 1) cap) = w3 at *
            have e4 : w3.cell? ⟨w.heap.size, 4, none⟩ = some (.int .i64 m.qty) := by rw [hM3.cell]; rfl
            have e14 : w3.cell? ⟨gx, 14, none⟩ = some (.int .i64 0) := by rw [hS3.x.cell]; rfl
            have e15 : w3.cell? ⟨gx, 15, none⟩ = some (.int .i64 0) := by rw [hS3.x.cell]; rfl
            have f14 := hS3.x.frozen 14
            have f15 := hS3.x.frozen 15
            have H3 := Lib.hid hS3
            have HM3 := Lib.hid hM3
            have HC3 := Lib.hid hC3
            clear hS3 hM3 hC3 hcp hrow hchg hx1 hf1 d0 d3 d4 d6 g4
            go_wp2_with fail
            go_ret
            rw [HR1.out, HR2.out]
            have hS2 : Chg [gx, gl, gp] w w3 := ((HC.out.mono (T := [gx, gl, gp]) (by simp)).trans I7.out (by simp)).trans HC3.out (by simp)
            have hat3 := I8.out
            have he := end2 H3.out hS2 hB (by simp; omega) b1 (by omega) (by omega) (wrap64 (-m.qty)) (wrap64 (-v))
            exact ⟨rfl, he.2, fun _ => he.1⟩
      · have t : decide (0 < left) = true := by simpa using h0
        have h0' : 0 < left := by omega
        cases ls with
        | nil =>
          have HX := Lib.hid (iss_end I1.out (.inr rfl)); clear h0
          have hR1 : R.1 = v := by rw [HX.out]
          have hR2 : R.2 = [] := by rw [HX.out]
          have HR1 := Lib.hid hR1; have HR2 := Lib.hid hR2; clear hR1 hR2
          have hm1 : Blk wr w.heap.size 38 (mCells m) := HM.out.chg I7.out (by simp; omega)
          have d0 : wr.cell? ⟨w.heap.size, 0, none⟩ = some (.int .i64 m.seq) := by rw [hm1.cell]; rfl
          have d3 : wr.cell? ⟨w.heap.size, 3, none⟩ = some (.int .i64 m.kind) := by rw [hm1.cell]; rfl
          have d4 : wr.cell? ⟨w.heap.size, 4, none⟩ = some (.int .i64 m.qty) := by rw [hm1.cell]; rfl
          have d6 : wr.cell? ⟨w.heap.size, 6, none⟩ = some (.string m.lot) := by rw [hm1.cell]; rfl
          have g4 : wr.cell? ⟨gx, 4, none⟩ = some (sl gp s.psts.length cp) := by rw [I6.out.x.cell]; rfl
          have n4 := World.new_ne wr _ g4
          have n0 := World.new_ne wr _ d0
          have hlt1 := hm1.lt
          have HM1 := Lib.hid hm1; clear hm1
          go_wp2_with fail
          refine wp_region_held_drew (S := (fun w' => w'.cell? ⟨w.heap.size, 0, none⟩ = some (.int .i64 m.seq) ∧ w'.cell? ⟨w.heap.size, 3, none⟩ = some (.int .i64 m.kind) ∧ w'.cell? ⟨w.heap.size, 4, none⟩ = some (.int .i64 m.qty) ∧ w'.cell? ⟨w.heap.size, 6, none⟩ = some (.string m.lot))) (by kernel_rfl) (by (first | (go_keep; done) | ((try go_split_ands); (repeat' apply And.intro) <;> (first | (go_keep; done) | (rw [hchg.cell _ (by simp <;> omega) (by simp <;> omega)]; (first | assumption | (go_keep; done))))))) (fun hHeld => ?_)
          refine wpAnyH_take (i := 0) (v := ?_) rfl (by kernel_rfl) (by kernel_rfl) (by kernel_rfl) (fun _ _ _ h => h) (Or.inl ⟨by rfl, ?_⟩) (by assumption) ?_
          rotate_left
          · (intro w hSw; (try dsimp only at hSw); go_simp)
            (try with_reducible rfl)
          (try simp only [Act.put, List.setIfInBounds_toArray])
          refine wpAnyH_take (i := 1) (v := ?_) rfl (by kernel_rfl) (by kernel_rfl) (by kernel_rfl) (fun _ _ _ h => h) (Or.inl ⟨by rfl, ?_⟩) (by assumption) ?_
          rotate_left
          · (intro w hSw; (try dsimp only at hSw); go_simp)
            (try with_reducible rfl)
          (try simp only [Act.put])
          refine wpAnyH_take (i := 2) (v := ?_) rfl (by kernel_rfl) (by kernel_rfl) (by kernel_rfl) (fun _ _ _ h => h) (Or.inl ⟨by rfl, ?_⟩) (by assumption) ?_
          rotate_left
          · (intro w hSw; (try dsimp only at hSw); go_simp)
            (try with_reducible rfl)
          (try simp only [Act.put])
          refine wpAnyH_take (i := 3) (v := ?_) rfl (by kernel_rfl) (by kernel_rfl) (by kernel_rfl) (fun _ _ _ h => h) (Or.inl ⟨by rfl, ?_⟩) (by assumption) ?_
          rotate_left
          · (intro w hSw; (try dsimp only at hSw); go_simp)
            (try with_reducible rfl)
          (try simp only [Act.put])
          refine wpAnyH_take (i := 4) (v := ?_) rfl (by kernel_rfl) (by kernel_rfl) (by kernel_rfl) (fun _ _ _ h => h) (Or.inl ⟨by rfl, ?_⟩) (by assumption) ?_
          rotate_left
          · (intro w hSw; (try dsimp only at hSw); go_simp)
            (try with_reducible rfl)
          (try simp only [Act.put])
          refine wpAnyH_take (i := 6) (v := ?_) rfl (by kernel_rfl) (by kernel_rfl) (by kernel_rfl) (fun _ _ _ h => h) (Or.inl ⟨by rfl, ?_⟩) (by assumption) ?_
          rotate_left
          · (intro w hSw; (try dsimp only at hSw); go_simp)
            (try with_reducible rfl)
          (try simp only [Act.put])
          refine wpAnyH_take (i := 7) (v := ?_) rfl (by kernel_rfl) (by kernel_rfl) (by kernel_rfl) (fun _ _ _ h => h) (Or.inl ⟨by rfl, ?_⟩) (by assumption) ?_
          rotate_left
          · (intro w hSw; (try dsimp only at hSw); go_simp)
            (try with_reducible rfl)
          (try simp only [Act.put])
          refine wpAnyH_take (i := 8) (v := ?_) rfl (by kernel_rfl) (by kernel_rfl) (by kernel_rfl) (fun _ _ _ h => h) (Or.inl ⟨by rfl, ?_⟩) (by assumption) ?_
          rotate_left
          · (intro w hSw; (try dsimp only at hSw); go_simp)
            (try with_reducible rfl)
          (try simp only [Act.put])
          refine wpAnyH_take (i := 9) (v := ?_) rfl (by kernel_rfl) (by kernel_rfl) (by kernel_rfl) (fun _ _ _ h => h) (Or.inl ⟨by rfl, ?_⟩) (by assumption) ?_
          rotate_left
          · (intro w hSw; (try dsimp only at hSw); go_simp)
            (try with_reducible rfl)
          (try simp only [Act.put])
          refine wpAnyH_take (i := 10) (v := ?_) rfl (by kernel_rfl) (by kernel_rfl) (by kernel_rfl) (fun _ _ _ h => h) (Or.inl ⟨by rfl, ?_⟩) (by assumption) ?_
          rotate_left
          · (intro w hSw; (try dsimp only at hSw); go_simp)
            (try with_reducible rfl)
          (try simp only [Act.put])
          refine wpAnyH_take (i := 11) (v := ?_) rfl (by kernel_rfl) (by kernel_rfl) (by kernel_rfl) (fun _ _ _ h => h) (Or.inl ⟨by rfl, ?_⟩) (by assumption) ?_
          rotate_left
          · (intro w hSw; (try dsimp only at hSw); go_simp)
            (try with_reducible rfl)
          (try simp only [Act.put])
          refine wpAnyH_take (i := 12) (v := ?_) rfl (by kernel_rfl) (by kernel_rfl) (by kernel_rfl) (fun _ _ _ h => h) (Or.inl ⟨by rfl, ?_⟩) (by assumption) ?_
          rotate_left
          · (intro w hSw; (try dsimp only at hSw); go_simp)
            (try with_reducible rfl)
          (try simp only [Act.put])
          refine wpAnyH_take (i := 13) (v := ?_) rfl (by kernel_rfl) (by kernel_rfl) (by kernel_rfl) (fun _ _ _ h => h) (Or.inl ⟨by rfl, ?_⟩) (by assumption) ?_
          rotate_left
          · (intro w hSw; (try dsimp only at hSw); go_simp)
            (try with_reducible rfl)
          (try simp only [Act.put])
          refine wpAnyH_take (i := 14) (v := ?_) rfl (by kernel_rfl) (by kernel_rfl) (by kernel_rfl) (fun _ _ _ h => h) (Or.inl ⟨by rfl, ?_⟩) (by assumption) ?_
          rotate_left
          · (intro w hSw; (try dsimp only at hSw); go_simp)
            (try with_reducible rfl)
          (try simp only [Act.put])
          refine wpAnyH_take (i := 15) (v := ?_) rfl (by kernel_rfl) (by kernel_rfl) (by kernel_rfl) (fun _ _ _ h => h) (Or.inl ⟨by rfl, ?_⟩) (by assumption) ?_
          rotate_left
          · (intro w hSw; (try dsimp only at hSw); go_simp)
            (try with_reducible rfl)
          (try simp only [Act.put])
          refine wpAnyH_ready (rs := [5, 16]) (by kernel_rfl) (by simp) ?_
          refine AllReadyH.cons (o := _) rfl (fun K hK => ?_) (AllReadyH.cons (o := _) rfl (fun K hK => ?_) AllReadyH.nil)
          · go_simp
            refine hK.out _ _ ?_ (fun hHeld => ?_)
            · (first | (go_keep; done) | ((try go_split_ands); (repeat' apply And.intro) <;> (first | (go_keep; done) | (rw [hchg.cell _ (by simp <;> omega) (by simp <;> omega)]; (first | assumption | (go_keep; done))))))
            clear hK K
            (try simp only [Act.put, List.setIfInBounds_toArray, List.set_cons_zero, List.set_cons_succ])
            refine wpAnyH_ready (rs := [16]) (by kernel_rfl) (by simp) ?_
            refine AllReadyH.cons (o := _) rfl (fun K hK => ?_) AllReadyH.nil
            go_simp
            refine hK.out _ _ ?_ (fun hHeld => ?_)
            · (first | (go_keep; done) | ((try go_split_ands); (repeat' apply And.intro) <;> (first | (go_keep; done) | (rw [hchg.cell _ (by simp <;> omega) (by simp <;> omega)]; (first | assumption | (go_keep; done))))))
            clear hK K
            (try simp only [Act.put, List.setIfInBounds_toArray, List.set_cons_zero, List.set_cons_succ])
            refine wpAnyH_ready (rs := [17]) (by kernel_rfl) (by simp) ?_
            refine AllReadyH.cons (o := _) rfl (fun K hK => ?_) AllReadyH.nil
            ((refine step_append_row _ (by rfl) _ _ _ (by rfl) 51 i0 _ 7 64 Tryd.underlying30 hi0 hz0 hz1 hz2 rfl gp s.psts.length cp _ kp (by rfl) (I6.out.p.of_blk ((I6.out.p.blk.alloc _).drew))
                ⟨wr.heap.size, 0, none⟩ 1 1 (Pst.cs ⟨m.seq, m.kind, m.lot, m.qty, v, 0, 0⟩) (by rfl) (by rfl) (World.news_of_block (cs := #[.int .i64 m.seq, .int .i64 m.kind, .string m.lot, .int .i64 m.qty, .int .i64 v, .int .i64 0, .int .i64 0]) (t := 51) (fr := (0, 0)) ((Blk.new wr 51 _).drew)) (by simp [Pst.cs, Value.oneCell'])
                (by simp [maxLen]; omega) (by omega) (wr.heap.size + 1) (by simp) ?_; intro gg cap cur1 w2 hrow hchg hat2
              obtain ⟨hx1, hf1, hs1⟩ := pstF hchg I6.out.x I6.out.xp (o := 4) (by rfl)))
            refine hK.out _ _ ?_ (fun hHeld => ?_)
            · (first | (go_keep; done) | ((try go_split_ands); (repeat' apply And.intro) <;> (first | (go_keep; done) | (rw [hchg.cell _ (by simp <;> omega) (by simp <;> omega)]; (first | assumption | (go_keep; done))))))
            clear hK K
            (try simp only [Act.put, List.setIfInBounds_toArray])
            refine wpAnyH_take (i := 18) (v := ?_) rfl (by kernel_rfl) (by kernel_rfl) (by kernel_rfl) (fun _ _ _ h => h) (Or.inl ⟨by rfl, ?_⟩) (by assumption) ?_
            rotate_left
            · (intro w hSw; (try dsimp only at hSw); go_simp)
              (try with_reducible rfl)
            (try simp only [Act.put])
            refine wpAnyH_take (i := 19) (v := ?_) rfl (by kernel_rfl) (by kernel_rfl) (by kernel_rfl) (fun _ _ _ h => h) (Or.inl ⟨by rfl, ?_⟩) (by assumption) ?_
            rotate_left
            · (intro w hSw; (try dsimp only at hSw); go_simp)
              (try with_reducible rfl)
            (try simp only [Act.put])
            refine wpAnyH_take (i := 20) (v := ?_) rfl (by kernel_rfl) (by kernel_rfl) (by kernel_rfl) (fun _ _ _ h => h) (Or.inl ⟨by rfl, ?_⟩) (by assumption) ?_
            rotate_left
            · (intro w hSw; (try dsimp only at hSw); go_simp)
              (try with_reducible rfl)
            (try simp only [Act.put])
            refine wpAnyH_ready (rs := [21]) (by kernel_rfl) (by simp) ?_
            refine AllReadyH.cons (o := _) rfl (fun K hK => ?_) AllReadyH.nil
            go_simp
            refine hK.out _ _ ?_ (fun hHeld => ?_)
            · (first | (go_keep; done) | ((try go_split_ands); (repeat' apply And.intro) <;> (first | (go_keep; done) | (rw [hchg.cell _ (by simp <;> omega) (by simp <;> omega)]; (first | assumption | (go_keep; done))))))
            clear hK K
            (try simp only [Act.put, List.setIfInBounds_toArray, List.set_cons_zero, List.set_cons_succ])
            refine wpAnyH_done (by kernel_rfl) ?_ _
            all_goals
              have hcp : Chg [gp] wr w2 := (((Chg.refl [gp] wr).alloc _).drew).trans hchg (fun x hx => .inl hx)
              have hS3 := I6.out.newp (ps' := s.psts ++ [⟨m.seq, m.kind, m.lot, m.qty, v, 0, 0⟩]) hcp (by simpa [PRow, pstsC] using hrow) (by omega)
              rw [show (s.psts ++ [(⟨m.seq, m.kind, m.lot, m.qty, v, 0, 0⟩ : Pst)]).length = s.psts.length + 1 by simp] at hS3
              have hM3 := (HM1.out.chg hcp (by simp; omega)).set_other (a := ⟨gx, 4, none⟩) (sl gg (s.psts.length + 1) cap) ne1
              have hC3 : Chg [gx, gp] wr (w2.setCell ⟨gx, 4, none⟩ (sl gg (s.psts.length + 1) cap)) := (hcp.mono (by simp)).set (.inl (by simp)) _
              generalize w2.setCell ⟨gx, 4, none⟩ (sl gg (s.psts.length + 1) cap) = w3 at *
              have e4 : w3.cell? ⟨w.heap.size, 4, none⟩ = some (.int .i64 m.qty) := by rw [hM3.cell]; rfl
              have e14 : w3.cell? ⟨gx, 14, none⟩ = some (.int .i64 0) := by rw [hS3.x.cell]; rfl
              have e15 : w3.cell? ⟨gx, 15, none⟩ = some (.int .i64 0) := by rw [hS3.x.cell]; rfl
              have f14 := hS3.x.frozen 14
              have f15 := hS3.x.frozen 15
              have H3 := Lib.hid hS3
              have HM3 := Lib.hid hM3
              have HC3 := Lib.hid hC3
              clear hS3 hM3 hC3 hcp hrow hchg hx1 hf1 d0 d3 d4 d6 g4
              go_wp2_with fail
              go_ret
              rw [HR1.out, HR2.out]
              have hS2 : Chg [gx, gl, gp] w w3 := ((HC.out.mono (T := [gx, gl, gp]) (by simp)).trans I7.out (by simp)).trans HC3.out (by simp)
              have hat3 := I8.out
              have he := end2 H3.out hS2 hB (by simp; omega) b1 (by omega) (by omega) (wrap64 (-m.qty)) (wrap64 (-v))
              exact ⟨rfl, he.2, fun _ => he.1⟩
          · go_simp
            refine hK.out _ _ ?_ (fun hHeld => ?_)
            · (first | (go_keep; done) | ((try go_split_ands); (repeat' apply And.intro) <;> (first | (go_keep; done) | (rw [hchg.cell _ (by simp <;> omega) (by simp <;> omega)]; (first | assumption | (go_keep; done))))))
            clear hK K
            (try simp only [Act.put, List.setIfInBounds_toArray, List.set_cons_zero, List.set_cons_succ])
            refine wpAnyH_ready (rs := [5]) (by kernel_rfl) (by simp) ?_
            refine AllReadyH.cons (o := _) rfl (fun K hK => ?_) AllReadyH.nil
            go_simp
            refine hK.out _ _ ?_ (fun hHeld => ?_)
            · (first | (go_keep; done) | ((try go_split_ands); (repeat' apply And.intro) <;> (first | (go_keep; done) | (rw [hchg.cell _ (by simp <;> omega) (by simp <;> omega)]; (first | assumption | (go_keep; done))))))
            clear hK K
            (try simp only [Act.put, List.setIfInBounds_toArray, List.set_cons_zero, List.set_cons_succ])
            refine wpAnyH_ready (rs := [17]) (by kernel_rfl) (by simp) ?_
            refine AllReadyH.cons (o := _) rfl (fun K hK => ?_) AllReadyH.nil
            ((refine step_append_row _ (by rfl) _ _ _ (by rfl) 51 i0 _ 7 64 Tryd.underlying30 hi0 hz0 hz1 hz2 rfl gp s.psts.length cp _ kp (by rfl) (I6.out.p.of_blk ((I6.out.p.blk.alloc _).drew))
                ⟨wr.heap.size, 0, none⟩ 1 1 (Pst.cs ⟨m.seq, m.kind, m.lot, m.qty, v, 0, 0⟩) (by rfl) (by rfl) (World.news_of_block (cs := #[.int .i64 m.seq, .int .i64 m.kind, .string m.lot, .int .i64 m.qty, .int .i64 v, .int .i64 0, .int .i64 0]) (t := 51) (fr := (0, 0)) ((Blk.new wr 51 _).drew)) (by simp [Pst.cs, Value.oneCell'])
                (by simp [maxLen]; omega) (by omega) (wr.heap.size + 1) (by simp) ?_; intro gg cap cur1 w2 hrow hchg hat2
              obtain ⟨hx1, hf1, hs1⟩ := pstF hchg I6.out.x I6.out.xp (o := 4) (by rfl)))
            refine hK.out _ _ ?_ (fun hHeld => ?_)
            · (first | (go_keep; done) | ((try go_split_ands); (repeat' apply And.intro) <;> (first | (go_keep; done) | (rw [hchg.cell _ (by simp <;> omega) (by simp <;> omega)]; (first | assumption | (go_keep; done))))))
            clear hK K
            (try simp only [Act.put, List.setIfInBounds_toArray])
            refine wpAnyH_take (i := 18) (v := ?_) rfl (by kernel_rfl) (by kernel_rfl) (by kernel_rfl) (fun _ _ _ h => h) (Or.inl ⟨by rfl, ?_⟩) (by assumption) ?_
            rotate_left
            · (intro w hSw; (try dsimp only at hSw); go_simp)
              (try with_reducible rfl)
            (try simp only [Act.put])
            refine wpAnyH_take (i := 19) (v := ?_) rfl (by kernel_rfl) (by kernel_rfl) (by kernel_rfl) (fun _ _ _ h => h) (Or.inl ⟨by rfl, ?_⟩) (by assumption) ?_
            rotate_left
            · (intro w hSw; (try dsimp only at hSw); go_simp)
              (try with_reducible rfl)
            (try simp only [Act.put])
            refine wpAnyH_take (i := 20) (v := ?_) rfl (by kernel_rfl) (by kernel_rfl) (by kernel_rfl) (fun _ _ _ h => h) (Or.inl ⟨by rfl, ?_⟩) (by assumption) ?_
            rotate_left
            · (intro w hSw; (try dsimp only at hSw); go_simp)
              (try with_reducible rfl)
            (try simp only [Act.put])
            refine wpAnyH_ready (rs := [21]) (by kernel_rfl) (by simp) ?_
            refine AllReadyH.cons (o := _) rfl (fun K hK => ?_) AllReadyH.nil
            go_simp
            refine hK.out _ _ ?_ (fun hHeld => ?_)
            · (first | (go_keep; done) | ((try go_split_ands); (repeat' apply And.intro) <;> (first | (go_keep; done) | (rw [hchg.cell _ (by simp <;> omega) (by simp <;> omega)]; (first | assumption | (go_keep; done))))))
            clear hK K
            (try simp only [Act.put, List.setIfInBounds_toArray, List.set_cons_zero, List.set_cons_succ])
            refine wpAnyH_done (by kernel_rfl) ?_ _
            all_goals
              have hcp : Chg [gp] wr w2 := (((Chg.refl [gp] wr).alloc _).drew).trans hchg (fun x hx => .inl hx)
              have hS3 := I6.out.newp (ps' := s.psts ++ [⟨m.seq, m.kind, m.lot, m.qty, v, 0, 0⟩]) hcp (by simpa [PRow, pstsC] using hrow) (by omega)
              rw [show (s.psts ++ [(⟨m.seq, m.kind, m.lot, m.qty, v, 0, 0⟩ : Pst)]).length = s.psts.length + 1 by simp] at hS3
              have hM3 := (HM1.out.chg hcp (by simp; omega)).set_other (a := ⟨gx, 4, none⟩) (sl gg (s.psts.length + 1) cap) ne1
              have hC3 : Chg [gx, gp] wr (w2.setCell ⟨gx, 4, none⟩ (sl gg (s.psts.length + 1) cap)) := (hcp.mono (by simp)).set (.inl (by simp)) _
              generalize w2.setCell ⟨gx, 4, none⟩ (sl gg (s.psts.length + 1) cap) = w3 at *
              have e4 : w3.cell? ⟨w.heap.size, 4, none⟩ = some (.int .i64 m.qty) := by rw [hM3.cell]; rfl
              have e14 : w3.cell? ⟨gx, 14, none⟩ = some (.int .i64 0) := by rw [hS3.x.cell]; rfl
              have e15 : w3.cell? ⟨gx, 15, none⟩ = some (.int .i64 0) := by rw [hS3.x.cell]; rfl
              have f14 := hS3.x.frozen 14
              have f15 := hS3.x.frozen 15
              have H3 := Lib.hid hS3
              have HM3 := Lib.hid hM3
              have HC3 := Lib.hid hC3
              clear hS3 hM3 hC3 hcp hrow hchg hx1 hf1 d0 d3 d4 d6 g4
              go_wp2_with fail
              go_ret
              rw [HR1.out, HR2.out]
              have hS2 : Chg [gx, gl, gp] w w3 := ((HC.out.mono (T := [gx, gl, gp]) (by simp)).trans I7.out (by simp)).trans HC3.out (by simp)
              have hat3 := I8.out
              have he := end2 H3.out hS2 hB (by simp; omega) b1 (by omega) (by omega) (wrap64 (-m.qty)) (wrap64 (-v))
              exact ⟨rfl, he.2, fun _ => he.1⟩
        | cons l ls =>
          have hlq := I3.out l (by simp)
          obtain ⟨z0, z1, z2, z3⟩ := I6.out.l.lay 0 (by simp)
          simp at z0 z1 z2 z3
          have hpos : decide ((0 : Int) < ((l :: ls).length : Int)) = true := by simp
          have hpos2 : (0 : Int) < ((l :: ls).length : Int) := by simp
          by_cases hle : l.qty ≤ left
          · obtain ⟨t1, t2, t3⟩ := iss_all I1.out h0 hle
            have T1 := Lib.hid t1; have T2 := Lib.hid t2; have T3 := Lib.hid t3; clear t1 t2 t3
            have hcase : (l.qty < left) = True ∨ left = l.qty := by
              by_cases h : l.qty < left
              · exact .inl (eq_true h)
              · exact .inr (by omega)
            clear hle
            have hround : ∀ w2, StL wr w2 gx gl' gp cp { s with lays := ls } m (c0 m) kp → ∃ g2 gl2 cl2 kl2, g2 < gk ∧ IssR w0 gx gl gp cp s m kp R g2 (wrap64 (left - l.qty)) (wrap64 (v + l.val)) ls gl2 cl2 kl2 w2 := by
              intro w2 h2
              have hgk := I2.out
              rw [if_pos h0', List.length_cons] at hgk
              obtain ⟨gl2, cl2, kl2, s1, s2, s3⟩ := StL.trans I7.out I8.out h2
              refine ⟨_, gl2, cl2, kl2, ?_, T3.out, rfl, fun x hx => I3.out x (by simp [hx]), I64.wrap _, by simp at i5; omega, s1, s2, s3⟩
              split <;> omega
            have HRo := Lib.hid hround; clear hround
            rcases hcase with hcase | rfl
            all_goals
              go_wp2_with fail
              refine (take_any gx gl' gp cl' cp _ m (c0 m) kl' kp 0 l.qty _ I6.out (by simp) i5 hlq.2 hlq.1 hlq.1).mono ?_
              rintro e w2 ⟨rfl, h2⟩
              rw [T1.out]
              rw [T2.out] at h2
              have h2 := HRo.out w2 h2
              have H2 := Lib.hid h2; clear h2
              go_wp2_with fail
              obtain ⟨g2, gl2, cl2, kl2, hm1, h3⟩ := H2.out
              go_roundg g2
              case rel => exact ⟨_, _, ls, gl2, cl2, kl2, (by first | rfl | (congr 1; simp [wrap64])), rfl, h3⟩
              case measure => exact hm1
          · obtain ⟨t1, t2⟩ := iss_part I1.out h0 hle i4 hlq.1
            have T1 := Lib.hid t1; have T2 := Lib.hid t2; clear t1 t2
            have hcase : (l.qty < left) = False := eq_false (by omega)
            go_wp2_with fail
            refine (take_any gx gl' gp cl' cp _ m (c0 m) kl' kp 0 left _ I6.out (by simp) i5 hlq.2 hlq.1 i4).mono ?_
            rintro e w2 ⟨rfl, h2⟩
            rw [T1.out] at h2
            have H2 := Lib.hid (StL.trans I7.out I8.out h2); clear h2
            go_wp2_with fail
            obtain ⟨gl2, cl2, kl2, s1, s2, s3⟩ := H2.out
            have hgk := I2.out
            rw [if_pos h0', List.length_cons] at hgk
            have hw0 : wrap64 (left - left) = 0 := by simp [wrap64]
            have hT := T2.out
            rw [hw0, T1.out] at hT
            go_roundg (2 * ls.length + 2)
            case rel =>
              refine ⟨0, _, _, gl2, cl2, kl2, (by first | rfl | (congr 1)), rfl, hT, by simp; omega, ?_, by decide, by simpa using i5, s1, s2, s3⟩
              intro x hx
              rcases List.mem_cons.1 hx with rfl | hx
              · exact ⟨I64.wrap _, I64.wrap _⟩
              · exact I3.out x (by simp [hx])
            case measure => omega
end Go.Proofs.YtboiipkbhbbgfaaDoor
