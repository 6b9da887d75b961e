/- FifoSums returns true for every list of movements. Condition: the table of the months' lengths stands as the program's text lays it. -/
import Derived.Test.YtboiipkbhbbgfaaDoorJ8
import Derived.BigQuiet
namespace Go.Proofs.YtboiipkbhbbgfaaDoor
open Go.RowKit

/-- the worlds in which what was there is as it was -/
def Hold (wr w : World) : Prop := Below wr.heap.size wr w
theorem Hold.size {wr w : World} (h : Hold wr w) : wr.heap.size ≤ w.heap.size := Below.size h
theorem Hold.drew {wr w : World} (h : Hold wr w) : Hold wr w.drew := Below.drew h
theorem Hold.alloc {wr w : World} (h : Hold wr w) (o : Obj) : Hold wr (w.alloc o) := Below.alloc h (Below.size h) o
theorem Hold.setCell {wr w : World} (h : Hold wr w) {p : Addr} (hp : wr.heap.size ≤ p.block) (v : Value) : Hold wr (w.setCell p v) := Below.setCell h hp v
theorem Hold.bel {wr w w' : World} (h : Hold wr w) (hb : Below w.heap.size w w') : Hold wr w' := Below.trans h (hb.mono (Below.size h))
theorem Hold.bel2 {wr w2 X w3 : World} (h : Hold wr w2) (hX : Below w2.heap.size w2 X) (hb : Below wr.heap.size X w3) : Hold wr w3 := Below.trans (Below.trans h (hX.mono (Below.size h))) hb
theorem z32 {w : World} {g : Nat} (h : Blk w g 32 stkZ) : w.cell? ⟨g, 0, none⟩ = some (.int .i64 0) ∧ w.cell? ⟨g, 1, none⟩ = some (.int .i64 0) ∧ w.cell? ⟨g, 2, none⟩ = some (.int .i64 0) ∧ w.cell? ⟨g, 3, none⟩ = some (.slice none 0 0) ∧ w.cell? ⟨g, 4, none⟩ = some (.slice none 0 0) ∧ (∀ o, w.frozen? ⟨g, o, none⟩ = false) ∧ g < w.heap.size ∧ w.heap.size ≠ g ∧ g ≠ w.heap.size :=
  ⟨by rw [h.cell]; rfl, by rw [h.cell]; rfl, by rw [h.cell]; rfl, by rw [h.cell]; rfl, by rw [h.cell]; rfl, fun o => h.frozen o, h.lt, Ne.symm (Nat.ne_of_lt h.lt), Nat.ne_of_lt h.lt⟩
theorem z34 {w : World} {g : Nat} (h : Blk w g 34 cstZ) : w.cell? ⟨g, 0, none⟩ = some (.int .i64 0) ∧ w.cell? ⟨g, 1, none⟩ = some (.int .i64 0) ∧ w.cell? ⟨g, 2, none⟩ = some (.int .i64 0) ∧ w.cell? ⟨g, 3, none⟩ = some (.int .i64 0) ∧ (∀ o, w.frozen? ⟨g, o, none⟩ = false) ∧ g < w.heap.size ∧ w.heap.size ≠ g ∧ g ≠ w.heap.size :=
  ⟨by rw [h.cell]; rfl, by rw [h.cell]; rfl, by rw [h.cell]; rfl, by rw [h.cell]; rfl, fun o => h.frozen o, h.lt, Ne.symm (Nat.ne_of_lt h.lt), Nat.ne_of_lt h.lt⟩

/-- the state after k movements, in the variable that is block b -/
structure VarR (w : World) (b : Nat) (ms : List Mov) (k : Nat) (wr : World) : Prop where
  bel : Below w.heap.size w wr
  st : ∃ bl cl bp cp, Blk wr b 32 #[.int .i64 (playK ms k).qty, .int .i64 (playK ms k).val, .int .i64 (playK ms k).price, .slice bl (playK ms k).lays.length cl, .slice bp (playK ms k).psts.length cp] ∧
    OwnL wr (b + 1) (.slice bl (playK ms k).lays.length cl) (playK ms k).lays ∧ OwnP wr (b + 1) (.slice bp (playK ms k).psts.length cp) (playK ms k).psts

set_option maxRecDepth 100000 in
set_option maxHeartbeats 40000000 in
theorem sums_walk (ms : List Mov) (v0 : Value) (w : World) (hm : Rd w 8 v0 ms.length (movsC ms)) (_hmm : ms.length ≤ maxLen) (hok : ∀ m ∈ ms, MovOk m) (hlen : LengthsAt w) :
    Calls Tryd.prog 5 #[v0] w fun e w' => e = .returned (.bool true) ∧ Below w.heap.size w w' := by
  obtain ⟨bv, cv, rfl⟩ := hm.form
  have HM := Lib.hid hm; have HLE := Lib.hid hlen; have HOK := Lib.hid hok; clear hm hlen hok
  generalize hN : min ms.length 60 = N
  have hN1 : N ≤ ms.length := by omega
  have hN2 : N ≤ 60 := by omega
  have HN := Lib.hid hN; clear hN
  go_enter Tryd.func5, Tryd.ntmps5
  go_wp2_with fail
  have hP0 : VarR w w.heap.size ms 0 (w.alloc (.cells stkZ 32)) := by
    have h0 : playK ms 0 = zStk := by simp [playK, playM]
    refine ⟨(Below.refl _ _).alloc (Nat.le_refl _) _, none, 0, none, 0, ?_⟩
    rw [h0]
    exact ⟨Blk.new w 32 stkZ, .inl ⟨rfl, rfl⟩, .inl ⟨rfl, rfl⟩⟩
  have HP0 := Lib.hid hP0; clear hP0
  go_loopg [4] N (fun g i wr => ∃ k : Nat, i = .int .i64 k ∧ k ≤ N ∧ g = N - k ∧ VarR w w.heap.size ms k wr)
  case atStart => exact ⟨0, rfl, Nat.zero_le _, rfl, HP0.out⟩
  case round =>
    obtain ⟨k, rfl, hkN, hgk, hR⟩ := hrel
    obtain ⟨hbel, bl, cl, bp, cp, hB, hol, hop⟩ := hR
    obtain ⟨hn1, hn2, hgood⟩ := play_len ms k (by omega)
    by_cases hk : k < N
    · have t1 : decide ((k : Int) < (ms.length : Int)) = true := by simp; omega
      have t2 : decide ((k : Int) < 60) = true := by simp; omega
      generalize hm : ms.getD k zMov = m
      have hmok : MovOk m := HOK.out m (by rw [← hm]; rw [List.getD_eq_getElem?_getD, List.getElem?_eq_getElem (by omega)]; simp)
      have hsucc := playK_succ ms k (by omega)
      rw [hm] at hsucc
      generalize playK ms k = s at *
      have hrd := HM.out.below hbel
      obtain ⟨a, rfl⟩ : ∃ a, bv = some a := by
        rcases hrd.2 with ⟨h1, h2⟩ | ⟨a, c, h1, _⟩
        · omega
        · injection h1 with h1; exact ⟨a, h1⟩
      obtain ⟨c0, c1, c2, c3, c4, c5, c6, c7⟩ := mov_cells hrd k (by omega) m hm
      have b0 : wr.cell? ⟨w.heap.size, 0, none⟩ = some (.int .i64 s.qty) := by rw [hB.cell]; rfl
      have b1 : wr.cell? ⟨w.heap.size, 1, none⟩ = some (.int .i64 s.val) := by rw [hB.cell]; rfl
      have b2 : wr.cell? ⟨w.heap.size, 2, none⟩ = some (.int .i64 s.price) := by rw [hB.cell]; rfl
      have b3 : wr.cell? ⟨w.heap.size, 3, none⟩ = some (.slice bl s.lays.length cl) := by rw [hB.cell]; rfl
      have b4 : wr.cell? ⟨w.heap.size, 4, none⟩ = some (.slice bp s.psts.length cp) := by rw [hB.cell]; rfl
      have i1 : (0 : Int) ≤ (k : Int) := by omega
      have i2 : (k : Int) < (ms.length : Int) := by omega
      have HB := Lib.hid hB; have HOL := Lib.hid hol; have HOP := Lib.hid hop; have HBEL := Lib.hid hbel; have HMO := Lib.hid hmok; have HS := Lib.hid hsucc; have HG := Lib.hid hgood; have HGK := Lib.hid hgk
      clear hB hol hop hbel hmok hsucc hgood hgk hm hrd
      have hst : ∀ W0, Below wr.heap.size wr W0 → Calls Tryd.prog 14 #[.agg #[.int .i64 s.qty, .int .i64 s.val, .int .i64 s.price, .slice bl s.lays.length cl, .slice bp s.psts.length cp], m.v] W0 (StepQ (stepM s m) W0) := fun W0 h0 =>
        step_q s m bl cl bp cp W0 (w.heap.size + 1) (HOL.out.below' h0) (HOP.out.below' h0) (by omega) (by omega) HG.out HMO.out.qty HMO.out.cost (HLE.out.below (HBEL.out.trans (h0.mono HBEL.out.size)))
      have hsok := step_ok s m HG.out
      have hll := step_lays_len s m
      generalize stepM s m = r at *
      have HSOK := Lib.hid hsok; clear hsok
      have ha := World.block_lt_of_cell? wr _ c0
      generalize hA : a.add (k * 8) = A at *
      have hsz := HBEL.out.size
      have hsz1 := HB.out.lt
      have nb1 : wr.heap.size ≠ w.heap.size := by omega
      have nb3 : wr.heap.size ≠ A.block := by omega
      have nb4 : wr.heap.size + 1 ≠ A.block := by omega
      have nb5 : wr.heap.size + 1 ≠ w.heap.size := by omega
      go_upto_region 5 with fail
      go_cut [5, 6, 7] (fun v5 v6 v7 W => ∃ bl1 cl1 bp1 cp1 x5 x6, v5 = .pointer (some ⟨x5, 0, none⟩) ∧ v6 = .pointer (some ⟨x6, 0, none⟩) ∧ v7 = .int .i64 r.err ∧ StepAt wr r bl1 cl1 bp1 cp1 x5 x6 W)
      case first =>
        have hh0 : Hold wr wr := Below.refl _ _
        have q0 : ∀ w', Hold wr w' → w'.cell? ⟨w.heap.size, 0, none⟩ = some (.int .i64 s.qty) := fun w' h => by rw [(HB.out.below' h).cell]; rfl
        have q1 : ∀ w', Hold wr w' → w'.cell? ⟨w.heap.size, 1, none⟩ = some (.int .i64 s.val) := fun w' h => by rw [(HB.out.below' h).cell]; rfl
        have q2 : ∀ w', Hold wr w' → w'.cell? ⟨w.heap.size, 2, none⟩ = some (.int .i64 s.price) := fun w' h => by rw [(HB.out.below' h).cell]; rfl
        have q3 : ∀ w', Hold wr w' → w'.cell? ⟨w.heap.size, 3, none⟩ = some (.slice bl s.lays.length cl) := fun w' h => by rw [(HB.out.below' h).cell]; rfl
        have q4 : ∀ w', Hold wr w' → w'.cell? ⟨w.heap.size, 4, none⟩ = some (.slice bp s.psts.length cp) := fun w' h => by rw [(HB.out.below' h).cell]; rfl
        have r0 : ∀ w', Hold wr w' → w'.cell? A = some (.int .i64 m.seq) := fun w' h => (Below.cell h (show (A : Addr).block < wr.heap.size from ha)).trans c0
        have r1 : ∀ w', Hold wr w' → w'.cell? ⟨A.block, A.off + 1, none⟩ = some (.int .i64 m.value) := fun w' h => (Below.cell h (show (⟨A.block, A.off + 1, none⟩ : Addr).block < wr.heap.size from ha)).trans c1
        have r2 : ∀ w', Hold wr w' → w'.cell? ⟨A.block, A.off + 2, none⟩ = some (.string m.item) := fun w' h => (Below.cell h (show (⟨A.block, A.off + 2, none⟩ : Addr).block < wr.heap.size from ha)).trans c2
        have r3 : ∀ w', Hold wr w' → w'.cell? ⟨A.block, A.off + 3, none⟩ = some (.int .i64 m.kind) := fun w' h => (Below.cell h (show (⟨A.block, A.off + 3, none⟩ : Addr).block < wr.heap.size from ha)).trans c3
        have r4 : ∀ w', Hold wr w' → w'.cell? ⟨A.block, A.off + 4, none⟩ = some (.int .i64 m.qty) := fun w' h => (Below.cell h (show (⟨A.block, A.off + 4, none⟩ : Addr).block < wr.heap.size from ha)).trans c4
        have r5 : ∀ w', Hold wr w' → w'.cell? ⟨A.block, A.off + 5, none⟩ = some (.int .i64 m.cost) := fun w' h => (Below.cell h (show (⟨A.block, A.off + 5, none⟩ : Addr).block < wr.heap.size from ha)).trans c5
        have r6 : ∀ w', Hold wr w' → w'.cell? ⟨A.block, A.off + 6, none⟩ = some (.string m.lot) := fun w' h => (Below.cell h (show (⟨A.block, A.off + 6, none⟩ : Addr).block < wr.heap.size from ha)).trans c6
        have r7 : ∀ w', Hold wr w' → w'.cell? ⟨A.block, A.off + 7, none⟩ = some (.int .i64 m.ref) := fun w' h => (Below.cell h (show (⟨A.block, A.off + 7, none⟩ : Addr).block < wr.heap.size from ha)).trans c7
        have hst' : ∀ W0, Hold wr W0 → Calls Tryd.prog 14 #[.agg #[.int .i64 s.qty, .int .i64 s.val, .int .i64 s.price, .slice bl s.lays.length cl, .slice bp s.psts.length cp], m.v] W0 fun e w' => Hold wr W0 ∧ StepQ r W0 e w' := fun W0 h0 => (hst W0 h0).mono fun e w' hp => ⟨h0, hp⟩
        clear b0 b1 b2 b3 b4 c0 c1 c2 c3 c4 c5 c6 c7 hst
        go_region_held3 (fun w' => Hold wr w')
          (((try dsimp only); (repeat' first | with_reducible assumption | with_reducible refine Hold.drew ?_ | with_reducible refine Hold.alloc ?_ _ | with_reducible refine Hold.setCell ?_ (by simp <;> omega) _)))
          ((first
          | (go_at_call 14; refine (hst' _ ?_).mono ?_
             exact (by ((try dsimp only); (repeat' first | with_reducible assumption | with_reducible refine Hold.drew ?_ | with_reducible refine Hold.alloc ?_ _ | with_reducible refine Hold.setCell ?_ (by simp <;> omega) _)))
             rintro e w1 ⟨hX, bl1, cl1, bp1, cp1, rfl, hb2, ho, hp⟩
             (first | (have zz : Blk w1 wr.heap.size 32 stkZ := Blk.below' (by with_reducible first | exact (Blk.new _ _ _).drew | exact ((Blk.new _ _ _).alloc _).drew | exact Blk.new _ _ _ | exact (Blk.new _ _ _).alloc _) hb2; have Hzz := Lib.hid zz; obtain ⟨z0, z1, z2, z3, z4, gz, lz, nz, nz1⟩ := z32 zz; clear zz) | (have zz : Blk w1 (wr.heap.size + 1) 32 stkZ := Blk.below' (by with_reducible first | exact (Blk.new2 _ _ _ _).drew | exact Blk.new2 _ _ _ _) hb2; have Hzz := Lib.hid zz; obtain ⟨z0, z1, z2, z3, z4, gz, lz, nz, nz1⟩ := z32 zz; clear zz) | skip)
             (first | (have vv : Blk w1 wr.heap.size 34 cstZ := Blk.below' (by with_reducible first | exact (Blk.new _ _ _).drew | exact ((Blk.new _ _ _).alloc _).drew | exact Blk.new _ _ _ | exact (Blk.new _ _ _).alloc _) hb2; have Hvv := Lib.hid vv; obtain ⟨v0, v1, v2, v3, gv, lv, nv, nv1⟩ := z34 vv; clear vv) | (have vv : Blk w1 (wr.heap.size + 1) 34 cstZ := Blk.below' (by with_reducible first | exact (Blk.new2 _ _ _ _).drew | exact Blk.new2 _ _ _ _) hb2; have Hvv := Lib.hid vv; obtain ⟨v0, v1, v2, v3, gv, lv, nv, nv1⟩ := z34 vv; clear vv) | skip)
             have hh2 : Hold wr w1 := Hold.bel hX hb2
             have hs2 := hb2.size
             have hs0 := Hold.size hX
             (try simp only [World.size_alloc, World.size_drew] at hs2 hs0)
             have HO := Lib.hid ho; have HP := Lib.hid hp; clear ho hp hb2)))
        · go_wp2_with fail
          go_meet
          exact ⟨bl1, cl1, bp1, cp1, w1.heap.size, w1.heap.size + 1, rfl, rfl, rfl, After.at (after1 _ _ _ _ _ _ _ _ _ _ _) hh2 (by simp <;> omega) (by omega) (by omega) HO.out HP.out⟩
        · go_wp2_with fail
          go_meet
          exact ⟨bl1, cl1, bp1, cp1, w1.heap.size + 1, w1.heap.size, rfl, rfl, rfl, After.at (after2 _ _ _ _ _ _ _ _ _ _ _) hh2 (by simp <;> omega) (by omega) (by omega) HO.out HP.out⟩
        · go_wp2_with fail
          go_meet
          exact ⟨bl1, cl1, bp1, cp1, wr.heap.size, w1.heap.size, rfl, rfl, rfl, After.at (after3 _ _ _ _ _ _ _ _ _ _ _ _ Hzz.out (by simp <;> omega)) hh2 (by simp <;> omega) (by omega) (by omega) HO.out HP.out⟩
        · go_wp2_with fail
          go_meet
          exact ⟨bl1, cl1, bp1, cp1, wr.heap.size, wr.heap.size + 1, rfl, rfl, rfl, After.at (after4 _ _ _ _ _ _ _ _ _ _ _ _ Hzz.out Hvv.out (by omega) (by simp <;> omega) (by simp <;> omega)) hh2 (by simp <;> omega) (by omega) (by omega) HO.out HP.out⟩
        · go_wp2_with fail
          go_meet
          exact ⟨bl1, cl1, bp1, cp1, w1.heap.size, wr.heap.size, rfl, rfl, rfl, After.at (after5 _ _ _ _ _ _ _ _ _ _ _ _ Hvv.out (by simp <;> omega)) hh2 (by simp <;> omega) (by omega) (by omega) HO.out HP.out⟩
        · go_wp2_with fail
          go_meet
          exact ⟨bl1, cl1, bp1, cp1, wr.heap.size + 1, wr.heap.size, rfl, rfl, rfl, After.at (after4 _ _ _ _ _ _ _ _ _ _ _ _ Hzz.out Hvv.out (by omega) (by simp <;> omega) (by simp <;> omega)) hh2 (by simp <;> omega) (by omega) (by omega) HO.out HP.out⟩
      case rest =>
        obtain ⟨bl1, cl1, bp1, cp1, x5, x6, rfl, rfl, rfl, hat⟩ := hcut
        have hW3 := HB.out.below' hat.bel
        by_cases he : r.err = 0
        · have he' : (r.err == 0) = true := by simpa using he
          have he2 : (r.err != 0) = false := by simp [he]
          have hso := HSOK.out he
          have hP : playK ms (k + 1) = r.stk := by rw [HS.out, if_pos he]
          have HPK := Lib.hid hP; have HSO := Lib.hid hso; have HAT := Lib.hid hat
          have hgood := hso.good
          clear hP he hso hat HSOK HS
          clear hW3 b0 b1 b2 b3 b4
          have hn900 : r.stk.lays.length ≤ 900 := by omega
          have hqb := hgood.qb
          have hvb := hgood.vb
          have HGT := Lib.hid hgood; clear hgood
          generalize wr = W0 at *
          go_wp2_with fail
          go_loopg [8, 9, 10] r.stk.lays.length (fun g x y z wx => ∃ j : Nat, x = .int .i64 (sumQ (r.stk.lays.take j)) ∧ y = .int .i64 (sumV (r.stk.lays.take j)) ∧ z = .int .i64 j ∧ j ≤ r.stk.lays.length ∧ g = r.stk.lays.length - j ∧ StepAt W0 r bl1 cl1 bp1 cp1 x5 x6 wx)
          case atStart => exact ⟨0, by simp [sumQ], by simp [sumV], rfl, Nat.zero_le _, rfl, HAT.out⟩
          case round =>
            obtain ⟨j, rfl, rfl, rfl, hjn, hgj, hat⟩ := hrel
            have y3 : wr.cell? ⟨x5, 3, none⟩ = some (.slice bl1 r.stk.lays.length cl1) := by rw [hat.t.cell]; rfl
            have HGJ := Lib.hid hgj; clear hgj
            by_cases hj : j < r.stk.lays.length
            · obtain ⟨g, kc, rfl, -, hg, hr⟩ := hat.l.block (by omega)
              obtain ⟨l0, l1, l2, l3⟩ := hr.lay j hj
              have hgl := HGT.out.l _ (getD_mem zLay _ j hj)
              have htk := take_le HGT.out.l (j + 1)
              have htj := take_le HGT.out.l j
              have hsq := sumQ_take r.stk.lays j hj
              have hsv := sumV_take r.stk.lays j hj
              rw [← HGT.out.q, ← HGT.out.v] at htk htj
              generalize hL : r.stk.lays.getD j zLay = L at *
              have e1 : wrap64 (sumQ (r.stk.lays.take j) + L.qty) = sumQ (r.stk.lays.take (j + 1)) := by rw [hsq]; exact w_id _ (by omega) (by omega)
              have e2 : wrap64 (sumV (r.stk.lays.take j) + L.val) = sumV (r.stk.lays.take (j + 1)) := by rw [hsv]; exact w_id _ (by omega) (by omega)
              have e3 : decide (L.qty < 1) = false := by have := hgl.1; simp; omega
              have j1 : (0 : Int) ≤ (j : Int) := by omega
              have j2 : (j : Int) < (r.stk.lays.length : Int) := by omega
              have HAT2 := Lib.hid hat; have E1 := Lib.hid e1; have E2 := Lib.hid e2; clear e1 e2
              clear hat hr hgl htk htj hsq hsv hL hg
              go_wp2_with fail
              refine still_tail2 17 (by kernel_rfl) (by kernel_rfl) ?_
              simp only [List.take_succ_cons, List.take_zero, List.drop_succ_cons, List.drop_zero]
              repeat still_step
              refine wpStill_nil ?_
              go_wp2_with fail
              go_roundg (r.stk.lays.length - (j + 1))
              case measure => rw [HGJ.out]; omega
              case rel => exact ⟨j + 1, congrArg (Value.int IntKind.i64) ((w64 _).trans E1.out), congrArg (Value.int IntKind.i64) ((w64 _).trans E2.out), by go_num, by omega, rfl, HAT2.out.drew⟩
            · have hjl : j = r.stk.lays.length := by omega
              subst hjl
              have f1 : sumQ (r.stk.lays.take r.stk.lays.length) = r.stk.qty := by rw [List.take_length, HGT.out.q]
              have f2 : sumV (r.stk.lays.take r.stk.lays.length) = r.stk.val := by rw [List.take_length, HGT.out.v]
              rw [f1, f2]
              have hk := HSO.out
              have g1 : wrap64 (s.qty + r.cst.qty) = r.stk.qty := by rw [hk.q]; have := hk.q; have := HGT.out.nn; exact w_id _ (by omega) (by omega)
              have g2 : wrap64 (s.val + r.cst.val) = r.stk.val := by rw [hk.v]; have := hk.v; have := HGT.out.nn; exact w_id _ (by omega) (by omega)
              have g1' : IntKind.i64.wrap (s.qty + r.cst.qty) = r.stk.qty := (w64 _).trans g1
              have g2' : IntKind.i64.wrap (s.val + r.cst.val) = r.stk.val := (w64 _).trans g2
              have g3 := hk.seq
              have g4 := hk.k1
              have g5 := hk.k4
              have g6 := hk.kind
              have g7 := hk.cost
              have p0 : wr.cell? A = some (.int .i64 m.seq) := (hat.bel.cell ha).trans c0
              have p3 : wr.cell? ⟨A.block, A.off + 3, none⟩ = some (.int .i64 m.kind) := (hat.bel.cell (show (⟨A.block, A.off + 3, none⟩ : Addr).block < W0.heap.size from ha)).trans c3
              have p5 : wr.cell? ⟨A.block, A.off + 5, none⟩ = some (.int .i64 m.cost) := (hat.bel.cell (show (⟨A.block, A.off + 5, none⟩ : Addr).block < W0.heap.size from ha)).trans c5
              have hb3 := HB.out.below' hat.bel
              have d0 : wr.cell? ⟨w.heap.size, 0, none⟩ = some (.int .i64 s.qty) := by rw [hb3.cell]; rfl
              have d1 : wr.cell? ⟨w.heap.size, 1, none⟩ = some (.int .i64 s.val) := by rw [hb3.cell]; rfl
              have d2 : wr.cell? ⟨w.heap.size, 2, none⟩ = some (.int .i64 s.price) := by rw [hb3.cell]; rfl
              have d3 : wr.cell? ⟨w.heap.size, 3, none⟩ = some (.slice bl s.lays.length cl) := by rw [hb3.cell]; rfl
              have d4 : wr.cell? ⟨w.heap.size, 4, none⟩ = some (.slice bp s.psts.length cp) := by rw [hb3.cell]; rfl
              have y0 : wr.cell? ⟨x5, 0, none⟩ = some (.int .i64 r.stk.qty) := by rw [hat.t.cell]; rfl
              have y1 : wr.cell? ⟨x5, 1, none⟩ = some (.int .i64 r.stk.val) := by rw [hat.t.cell]; rfl
              have y2 : wr.cell? ⟨x5, 2, none⟩ = some (.int .i64 r.stk.price) := by rw [hat.t.cell]; rfl
              have y4 : wr.cell? ⟨x5, 4, none⟩ = some (.slice bp1 r.stk.psts.length cp1) := by rw [hat.t.cell]; rfl
              have u0' : wr.cell? ⟨x6, 0, none⟩ = some (.int .i64 m.seq) := by rw [hat.c.cell, ← g3]; rfl
              have u1' : wr.cell? ⟨x6, 1, none⟩ = some (.int .i64 r.cst.qty) := by rw [hat.c.cell]; rfl
              have u2' : wr.cell? ⟨x6, 2, none⟩ = some (.int .i64 r.cst.val) := by rw [hat.c.cell]; rfl
              have u3' : wr.cell? ⟨x6, 3, none⟩ = some (.int .i64 r.cst.var) := by rw [hat.c.cell]; rfl
              have fb := fun o => hb3.frozen o
              have HAT2 := Lib.hid hat; have HB3 := Lib.hid hb3; have HBX := Lib.hid (HBEL.out.trans (hat.bel.mono hsz))
              clear hat hb3 hk f1 f2 c0 c1 c2 c3 c4 c5 c6 c7 g3
              have hrest : ∀ W', Chg [w.heap.size] wr W' → Blk W' w.heap.size 32 #[.int .i64 r.stk.qty, .int .i64 r.stk.val, .int .i64 r.stk.price, .slice bl1 r.stk.lays.length cl1, .slice bp1 r.stk.psts.length cp1] → VarR w w.heap.size ms (k + 1) W' := by
                intro W' hc hbk
                refine ⟨HBX.out.trans (hc.below HBX.out.size (by simp)), bl1, cl1, bp1, cp1, ?_, ?_, ?_⟩
                · rw [HPK.out]; exact hbk
                · rw [HPK.out]; exact (HAT2.out.l.keep fun g e cur hg hb => hb.chg hc (by simp; omega)).mono (by omega)
                · rw [HPK.out]; exact (HAT2.out.p.keep fun g e cur hg hb => hb.chg hc (by simp; omega)).mono (by omega)
              have HR := Lib.hid hrest; clear hrest
              have hkinds : m.kind = 4 ∨ m.kind = 1 ∨ m.kind = 5 ∨ (¬ m.kind = 4 ∧ ¬ m.kind = 1 ∧ ¬ m.kind = 5) := by omega
              rcases hkinds with h4 | h1 | h5 | hno
              · have z4 : (m.kind == 4) = true := by simpa using h4
                have z1 : (m.kind == 1) = false := by simp [h4]
                have z5 : (m.kind == 5) = false := by simp [h4]
                have gv : wrap64 (r.cst.val + r.cst.var) = -m.cost := by rw [g5 h4]; exact w_id _ (by omega) (by omega)
                have gv' : IntKind.i64.wrap (r.cst.val + r.cst.var) = -m.cost := (w64 _).trans gv
                have gw : wrap64 (-m.cost) = -m.cost := w_id _ (by omega) (by omega)
                have gw' : IntKind.i64.wrap (-m.cost) = -m.cost := (w64 _).trans gw
                clear h4 g4 g5 g6
                as_aux_lemma =>
                  go_wp2_with fail
                  refine still_tail2 11 (by kernel_rfl) (by kernel_rfl) ?_
                  simp only [List.take_succ_cons, List.take_zero, List.drop_succ_cons, List.drop_zero]
                  repeat still_step
                  refine wpStill_nil ?_
                  go_wp2_with fail
                  go_quiet (fail)
                  go_wp2_with fail
                  go_roundg (N - (k + 1))
                  case measure => rw [HGK.out]; omega
                  case rel =>
                    refine ⟨k + 1, by go_num, by omega, rfl, HR.out _ ?_ ?_⟩
                    · exact (show Chg [w.heap.size] wr (wr.drewN (1 + nq)) from ⟨rfl, rfl, rfl, Nat.le_refl _, fun _ _ _ => rfl⟩).trans (T := [w.heap.size]) (set5_chg _ _ _ _ _ _ _) (by simp)
                    · exact set5_blk (w := wr.drewN (1 + nq)) (c0 := .int .i64 s.qty) (c1 := .int .i64 s.val) (c2 := .int .i64 s.price) (c3 := .slice bl s.lays.length cl) (c4 := .slice bp s.psts.length cp) HB3.out _ _ _ _ _
              · have z4 : (m.kind == 4) = false := by simp [h1]
                have z1 : (m.kind == 1) = true := by simpa using h1
                have gv : wrap64 (r.cst.val + r.cst.var) = m.cost := by rw [g4 (.inl h1)]; exact w_id _ (by omega) (by omega)
                have gv' : IntKind.i64.wrap (r.cst.val + r.cst.var) = m.cost := (w64 _).trans gv
                clear h1 g4 g5 g6
                as_aux_lemma =>
                  go_wp2_with fail
                  refine still_tail2 11 (by kernel_rfl) (by kernel_rfl) ?_
                  simp only [List.take_succ_cons, List.take_zero, List.drop_succ_cons, List.drop_zero]
                  repeat still_step
                  refine wpStill_nil ?_
                  go_wp2_with fail
                  go_quiet (fail)
                  go_wp2_with fail
                  go_roundg (N - (k + 1))
                  case measure => rw [HGK.out]; omega
                  case rel =>
                    refine ⟨k + 1, by go_num, by omega, rfl, HR.out _ ?_ ?_⟩
                    · exact (show Chg [w.heap.size] wr (wr.drewN (1 + nq)) from ⟨rfl, rfl, rfl, Nat.le_refl _, fun _ _ _ => rfl⟩).trans (T := [w.heap.size]) (set5_chg _ _ _ _ _ _ _) (by simp)
                    · exact set5_blk (w := wr.drewN (1 + nq)) (c0 := .int .i64 s.qty) (c1 := .int .i64 s.val) (c2 := .int .i64 s.price) (c3 := .slice bl s.lays.length cl) (c4 := .slice bp s.psts.length cp) HB3.out _ _ _ _ _
              · have z4 : (m.kind == 4) = false := by simp [h5]
                have z1 : (m.kind == 1) = false := by simp [h5]
                have z5 : (m.kind == 5) = true := by simpa using h5
                have gv : wrap64 (r.cst.val + r.cst.var) = m.cost := by rw [g4 (.inr h5)]; exact w_id _ (by omega) (by omega)
                have gv' : IntKind.i64.wrap (r.cst.val + r.cst.var) = m.cost := (w64 _).trans gv
                clear h5 g4 g5 g6
                as_aux_lemma =>
                  go_wp2_with fail
                  refine still_tail2 11 (by kernel_rfl) (by kernel_rfl) ?_
                  simp only [List.take_succ_cons, List.take_zero, List.drop_succ_cons, List.drop_zero]
                  repeat still_step
                  refine wpStill_nil ?_
                  go_wp2_with fail
                  go_quiet (fail)
                  go_wp2_with fail
                  go_roundg (N - (k + 1))
                  case measure => rw [HGK.out]; omega
                  case rel =>
                    refine ⟨k + 1, by go_num, by omega, rfl, HR.out _ ?_ ?_⟩
                    · exact (show Chg [w.heap.size] wr (wr.drewN (1 + nq)) from ⟨rfl, rfl, rfl, Nat.le_refl _, fun _ _ _ => rfl⟩).trans (T := [w.heap.size]) (set5_chg _ _ _ _ _ _ _) (by simp)
                    · exact set5_blk (w := wr.drewN (1 + nq)) (c0 := .int .i64 s.qty) (c1 := .int .i64 s.val) (c2 := .int .i64 s.price) (c3 := .slice bl s.lays.length cl) (c4 := .slice bp s.psts.length cp) HB3.out _ _ _ _ _
              · have z4 : (m.kind == 4) = false := by simpa using hno.1
                have z1 : (m.kind == 1) = false := by simpa using hno.2.1
                have z5 : (m.kind == 5) = false := by simpa using hno.2.2
                clear hno g4 g5 g6
                as_aux_lemma =>
                  go_wp2_with fail
                  refine still_tail2 11 (by kernel_rfl) (by kernel_rfl) ?_
                  simp only [List.take_succ_cons, List.take_zero, List.drop_succ_cons, List.drop_zero]
                  repeat still_step
                  refine wpStill_nil ?_
                  go_wp2_with fail
                  go_quiet (fail)
                  go_wp2_with fail
                  go_roundg (N - (k + 1))
                  case measure => rw [HGK.out]; omega
                  case rel =>
                    refine ⟨k + 1, by go_num, by omega, rfl, HR.out _ ?_ ?_⟩
                    · exact (show Chg [w.heap.size] wr (wr.drewN (1 + nq)) from ⟨rfl, rfl, rfl, Nat.le_refl _, fun _ _ _ => rfl⟩).trans (T := [w.heap.size]) (set5_chg _ _ _ _ _ _ _) (by simp)
                    · exact set5_blk (w := wr.drewN (1 + nq)) (c0 := .int .i64 s.qty) (c1 := .int .i64 s.val) (c2 := .int .i64 s.price) (c3 := .slice bl s.lays.length cl) (c4 := .slice bp s.psts.length cp) HB3.out _ _ _ _ _
        · have he' : (r.err == 0) = false := by simpa using he
          have he2 : (r.err != 0) = true := by simpa using he
          have hP : playK ms (k + 1) = s := by rw [HS.out, if_neg he]
          have HPK := Lib.hid hP; have HAT := Lib.hid hat; have HW3 := Lib.hid hW3; clear hP he hat hW3
          go_wp2_with fail
          go_roundg (N - (k + 1))
          case measure => rw [HGK.out]; omega
          case rel =>
            refine ⟨k + 1, by go_num, by omega, rfl, HBEL.out.trans (HAT.out.bel.mono hsz), ⟨bl, cl, bp, cp, ?_, ?_, ?_⟩⟩
            · rw [HPK.out]; exact HW3.out
            · rw [HPK.out]; exact HOL.out.below' HAT.out.bel
            · rw [HPK.out]; exact HOP.out.below' HAT.out.bel
    · have hkN' : k = N := by omega
      subst hkN'
      have HBEL := Lib.hid hbel
      clear hB hol hop hbel hgood hgk hn1 hn2
      by_cases h1 : k < ms.length
      · have t1 : decide ((k : Int) < (ms.length : Int)) = true := by simp; omega
        have t2 : decide ((k : Int) < 60) = false := by have := HN.out; simp; omega
        go_wp2_with fail
        refine (lives_any _ (HLE.out.below HBEL.out)).mono ?_
        rintro e w2 ⟨rfl, hb2⟩
        have HB2 := Lib.hid (HBEL.out.trans (hb2.mono HBEL.out.size)); clear hb2
        go_wp2_with fail
        go_ret
        exact ⟨rfl, HB2.out⟩
      · have t1 : decide ((k : Int) < (ms.length : Int)) = false := by simp; omega
        go_wp2_with fail
        refine (lives_any _ (HLE.out.below HBEL.out)).mono ?_
        rintro e w2 ⟨rfl, hb2⟩
        have HB2 := Lib.hid (HBEL.out.trans (hb2.mono HBEL.out.size)); clear hb2
        go_wp2_with fail
        go_ret
        exact ⟨rfl, HB2.out⟩
end Go.Proofs.YtboiipkbhbbgfaaDoor
