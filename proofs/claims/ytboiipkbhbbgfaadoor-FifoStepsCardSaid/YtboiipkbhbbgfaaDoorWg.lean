/- FifoSteps returns true for every list of movements: the program's Step and the reference's agree. Condition: the table of the months' lengths stands as the program's text lays it. -/
import Derived.Test.YtboiipkbhbbgfaaDoorWf
import Derived.Test.YtboiipkbhbbgfaaDoorJ8
import Derived.Test.YtboiipkbhbbgfaaDoorWb
namespace Go.Proofs.YtboiipkbhbbgfaaDoor
open Go.RowKit

/-- the state after k movements, in two variables: as the program has it, as the reference has it -/
structure VarS (w : World) (b : Nat) (ms : List Mov) (k : Nat) (wr : World) : Prop where
  bel : Below w.heap.size w wr
  st : ∃ bls cls bps cps blr clr bpr cpr, Blk wr b 32 #[.int .i64 (playK ms k).qty, .int .i64 (playK ms k).val, .int .i64 (playK ms k).price, .slice bls (playK ms k).lays.length cls, .slice bps (playK ms k).psts.length cps] ∧ Blk wr (b + 1) 32 #[.int .i64 (playK ms k).qty, .int .i64 (playK ms k).val, .int .i64 (playK ms k).price, .slice blr (playK ms k).lays.length clr, .slice bpr (playK ms k).psts.length cpr] ∧
    OwnL wr (b + 2) (.slice bls (playK ms k).lays.length cls) (playK ms k).lays ∧ OwnP wr (b + 2) (.slice bps (playK ms k).psts.length cps) (playK ms k).psts ∧
    OwnL wr (b + 2) (.slice blr (playK ms k).lays.length clr) (playK ms k).lays ∧ OwnP wr (b + 2) (.slice bpr (playK ms k).psts.length cpr) (playK ms k).psts

set_option maxRecDepth 100000 in
set_option maxHeartbeats 40000000 in
theorem steps_walk (ms : List Mov) (v0 : Value) (w : World) (hm : Rd w 8 v0 ms.length (movsC ms)) (_hmm : ms.length ≤ maxLen) (hok : ∀ m ∈ ms, MovOk m) (hlen : LengthsAt w) :
    Calls Tryd.prog 4 #[v0] w fun e w' => e = .returned (.bool true) ∧ Below w.heap.size w w' := by
  obtain ⟨bv, cv, rfl⟩ := hm.form
  have HM := Lib.hid hm; have HLE := Lib.hid hlen; have HOK := Lib.hid hok; clear hm hlen hok
  generalize hN : min ms.length 60 = N
  have hN1 : N ≤ ms.length := by omega
  have hN2 : N ≤ 60 := by omega
  have HN := Lib.hid hN; clear hN
  go_enter Tryd.func4, Tryd.ntmps4
  go_wp2_with fail
  have hP0 : VarS w w.heap.size ms 0 ((w.alloc (.cells stkZ 32)).alloc (.cells stkZ 32)) := by
    have h0 : playK ms 0 = zStk := by simp [playK, playM]
    refine ⟨((Below.refl _ _).alloc (Nat.le_refl _) _).alloc (by simp) _, none, 0, none, 0, none, 0, none, 0, ?_⟩
    rw [h0]
    exact ⟨(Blk.new w 32 stkZ).alloc _, Blk.new2 _ _ _ _, .inl ⟨rfl, rfl⟩, .inl ⟨rfl, rfl⟩, .inl ⟨rfl, rfl⟩, .inl ⟨rfl, rfl⟩⟩
  have HP0 := Lib.hid hP0; clear hP0
  go_loopg [5] N (fun g i wr => ∃ k : Nat, i = .int .i64 k ∧ k ≤ N ∧ g = N - k ∧ VarS w w.heap.size ms k wr)
  case atStart => exact ⟨0, rfl, Nat.zero_le _, rfl, HP0.out⟩
  case round =>
    obtain ⟨k, rfl, hkN, hgk, hR⟩ := hrel
    obtain ⟨hbel, bls, cls, bps, cps, blr, clr, bpr, cpr, hB, hB2, hol, hop, hol2, hop2⟩ := hR
    obtain ⟨hn1, hn2, hgood⟩ := play_len ms k (by omega)
    by_cases hk : k < N
    · have t1 : decide ((k : Int) < (ms.length : Int)) = true := by simp; omega
      have t2 : decide ((k : Int) < 60) = true := by simp; omega
      generalize hm : ms.getD k zMov = m
      have hmok : MovOk m := HOK.out m (by rw [← hm]; rw [List.getD_eq_getElem?_getD, List.getElem?_eq_getElem (by omega)]; simp)
      have hsucc := playK_succ ms k (by omega)
      rw [hm] at hsucc
      generalize playK ms k = s at *
      have hrd := HM.out.below hbel
      obtain ⟨a, rfl⟩ : ∃ a, bv = some a := by
        rcases hrd.2 with ⟨h1, h2⟩ | ⟨a, c, h1, _⟩
        · omega
        · injection h1 with h1; exact ⟨a, h1⟩
      obtain ⟨c0, c1, c2, c3, c4, c5, c6, c7⟩ := mov_cells hrd k (by omega) m hm
      have i1 : (0 : Int) ≤ (k : Int) := by omega
      have i2 : (k : Int) < (ms.length : Int) := by omega
      have HB := Lib.hid hB; have HB2 := Lib.hid hB2; have HOL := Lib.hid hol; have HOP := Lib.hid hop; have HOL2 := Lib.hid hol2; have HOP2 := Lib.hid hop2; have HBEL := Lib.hid hbel; have HMO := Lib.hid hmok; have HS := Lib.hid hsucc; have HG := Lib.hid hgood; have HGK := Lib.hid hgk
      clear hB hB2 hol hop hol2 hop2 hbel hmok hsucc hgood hgk hm hrd
      have hst : ∀ W0, Hold wr W0 → Calls Tryd.prog 14 #[.agg #[.int .i64 s.qty, .int .i64 s.val, .int .i64 s.price, .slice bls s.lays.length cls, .slice bps s.psts.length cps], m.v] W0 fun e w' => Hold wr W0 ∧ StepQ (stepM s m) W0 e w' := fun W0 h0 =>
        (step_q s m bls cls bps cps W0 (w.heap.size + 2) (HOL.out.below' h0) (HOP.out.below' h0) (by omega) (by omega) HG.out HMO.out.qty HMO.out.cost (HLE.out.below (HBEL.out.trans (Below.mono h0 HBEL.out.size)))).mono fun e w' hp => ⟨h0, hp⟩
      have hst2 : ∀ wr2, Below wr.heap.size wr wr2 → ∀ W0, Hold wr2 W0 → Calls Tryd.prog 15 #[.agg #[.int .i64 s.qty, .int .i64 s.val, .int .i64 s.price, .slice blr s.lays.length clr, .slice bpr s.psts.length cpr], m.v] W0 fun e w' => Hold wr2 W0 ∧ StepQ (stepM s m) W0 e w' := fun wr2 hb W0 h0 =>
        (rstep_q s m blr clr bpr cpr W0 (((HOL2.out.below' hb).below' h0).mono (Nat.zero_le _)) (((HOP2.out.below' hb).below' h0).mono (Nat.zero_le _)) (by omega) (by omega) HG.out HMO.out.item HMO.out.lot).mono fun e w' hp => ⟨h0, hp⟩
      have hll := step_lays_len s m
      have hpl := step_psts_len s m
      generalize stepM s m = r at *
      have HST2 := Lib.hid hst2; clear hst2
      have ha := World.block_lt_of_cell? wr _ c0
      generalize hA : a.add (k * 8) = A at *
      have hsz := HBEL.out.size
      have hszb := HB2.out.lt
      have hh0 : Hold wr wr := Below.refl _ _
      have q0 : ∀ w', Hold wr w' → w'.cell? ⟨w.heap.size, 0, none⟩ = some (.int .i64 s.qty) := fun w' h => by rw [(HB.out.below' h).cell]; rfl
      have q1 : ∀ w', Hold wr w' → w'.cell? ⟨w.heap.size, 1, none⟩ = some (.int .i64 s.val) := fun w' h => by rw [(HB.out.below' h).cell]; rfl
      have q2 : ∀ w', Hold wr w' → w'.cell? ⟨w.heap.size, 2, none⟩ = some (.int .i64 s.price) := fun w' h => by rw [(HB.out.below' h).cell]; rfl
      have q3 : ∀ w', Hold wr w' → w'.cell? ⟨w.heap.size, 3, none⟩ = some (.slice bls s.lays.length cls) := fun w' h => by rw [(HB.out.below' h).cell]; rfl
      have q4 : ∀ w', Hold wr w' → w'.cell? ⟨w.heap.size, 4, none⟩ = some (.slice bps s.psts.length cps) := fun w' h => by rw [(HB.out.below' h).cell]; rfl
      have r0 : ∀ w', Hold wr w' → w'.cell? A = some (.int .i64 m.seq) := fun w' h => (Below.cell h (show (A : Addr).block < wr.heap.size from ha)).trans c0
      have r1 : ∀ w', Hold wr w' → w'.cell? ⟨A.block, A.off + 1, none⟩ = some (.int .i64 m.value) := fun w' h => (Below.cell h (show (⟨A.block, A.off + 1, none⟩ : Addr).block < wr.heap.size from ha)).trans c1
      have r2 : ∀ w', Hold wr w' → w'.cell? ⟨A.block, A.off + 2, none⟩ = some (.string m.item) := fun w' h => (Below.cell h (show (⟨A.block, A.off + 2, none⟩ : Addr).block < wr.heap.size from ha)).trans c2
      have r3 : ∀ w', Hold wr w' → w'.cell? ⟨A.block, A.off + 3, none⟩ = some (.int .i64 m.kind) := fun w' h => (Below.cell h (show (⟨A.block, A.off + 3, none⟩ : Addr).block < wr.heap.size from ha)).trans c3
      have r4 : ∀ w', Hold wr w' → w'.cell? ⟨A.block, A.off + 4, none⟩ = some (.int .i64 m.qty) := fun w' h => (Below.cell h (show (⟨A.block, A.off + 4, none⟩ : Addr).block < wr.heap.size from ha)).trans c4
      have r5 : ∀ w', Hold wr w' → w'.cell? ⟨A.block, A.off + 5, none⟩ = some (.int .i64 m.cost) := fun w' h => (Below.cell h (show (⟨A.block, A.off + 5, none⟩ : Addr).block < wr.heap.size from ha)).trans c5
      have r6 : ∀ w', Hold wr w' → w'.cell? ⟨A.block, A.off + 6, none⟩ = some (.string m.lot) := fun w' h => (Below.cell h (show (⟨A.block, A.off + 6, none⟩ : Addr).block < wr.heap.size from ha)).trans c6
      have r7 : ∀ w', Hold wr w' → w'.cell? ⟨A.block, A.off + 7, none⟩ = some (.int .i64 m.ref) := fun w' h => (Below.cell h (show (⟨A.block, A.off + 7, none⟩ : Addr).block < wr.heap.size from ha)).trans c7
      clear c0 c1 c2 c3 c4 c5 c6 c7
      go_upto_region 5 with fail
      go_cut [6, 7, 8] (fun v6 v7 v8 W => ∃ bl1 cl1 bp1 cp1 x6 x7, v6 = .pointer (some ⟨x6, 0, none⟩) ∧ v7 = .pointer (some ⟨x7, 0, none⟩) ∧ v8 = .int .i64 r.err ∧ StepAt wr r bl1 cl1 bp1 cp1 x6 x7 W)
      case first =>
        go_region_held3 (fun w' => Hold wr w')
          (((try dsimp only); (repeat' first | with_reducible assumption | with_reducible refine Hold.drew ?_ | with_reducible refine Hold.alloc ?_ _ | with_reducible refine Hold.setCell ?_ (by simp <;> omega) _)))
          ((first
          | (go_at_call 14; refine (hst _ ?_).mono ?_
             exact (by ((try dsimp only); (repeat' first | with_reducible assumption | with_reducible refine Hold.drew ?_ | with_reducible refine Hold.alloc ?_ _ | with_reducible refine Hold.setCell ?_ (by simp <;> omega) _)))
             rintro e w1 ⟨hX, bl1, cl1, bp1, cp1, rfl, hb2, ho, hp⟩
             (first | (have zz : Blk w1 wr.heap.size 32 stkZ := Blk.below' (by with_reducible first | exact (Blk.new _ _ _).drew | exact ((Blk.new _ _ _).alloc _).drew | exact Blk.new _ _ _ | exact (Blk.new _ _ _).alloc _) hb2; have Hzz := Lib.hid zz; obtain ⟨z0, z1, z2, z3, z4, gz, lz, nz, nz1⟩ := z32 zz; clear zz) | (have zz : Blk w1 (wr.heap.size + 1) 32 stkZ := Blk.below' (by with_reducible first | exact (Blk.new2 _ _ _ _).drew | exact Blk.new2 _ _ _ _) hb2; have Hzz := Lib.hid zz; obtain ⟨z0, z1, z2, z3, z4, gz, lz, nz, nz1⟩ := z32 zz; clear zz) | skip)
             (first | (have vv : Blk w1 wr.heap.size 34 cstZ := Blk.below' (by with_reducible first | exact (Blk.new _ _ _).drew | exact ((Blk.new _ _ _).alloc _).drew | exact Blk.new _ _ _ | exact (Blk.new _ _ _).alloc _) hb2; have Hvv := Lib.hid vv; obtain ⟨v0, v1, v2, v3, gv, lv, nv, nv1⟩ := z34 vv; clear vv) | (have vv : Blk w1 (wr.heap.size + 1) 34 cstZ := Blk.below' (by with_reducible first | exact (Blk.new2 _ _ _ _).drew | exact Blk.new2 _ _ _ _) hb2; have Hvv := Lib.hid vv; obtain ⟨v0, v1, v2, v3, gv, lv, nv, nv1⟩ := z34 vv; clear vv) | skip)
             have hh2 : Hold wr w1 := Hold.bel hX hb2
             have hs2 := hb2.size
             have hs0 := Hold.size hX
             (try simp only [World.size_alloc, World.size_drew] at hs2 hs0)
             have HO := Lib.hid ho; have HP := Lib.hid hp; clear ho hp hb2)))
        · go_wp2_with fail
          go_meet
          exact ⟨bl1, cl1, bp1, cp1, w1.heap.size, w1.heap.size + 1, rfl, rfl, rfl, After.at (after1 _ _ _ _ _ _ _ _ _ _ _) hh2 (by simp <;> omega) (by omega) (by omega) HO.out HP.out⟩
        · go_wp2_with fail
          go_meet
          exact ⟨bl1, cl1, bp1, cp1, w1.heap.size + 1, w1.heap.size, rfl, rfl, rfl, After.at (after2 _ _ _ _ _ _ _ _ _ _ _) hh2 (by simp <;> omega) (by omega) (by omega) HO.out HP.out⟩
        · go_wp2_with fail
          go_meet
          exact ⟨bl1, cl1, bp1, cp1, wr.heap.size, w1.heap.size, rfl, rfl, rfl, After.at (after3 _ _ _ _ _ _ _ _ _ _ _ _ Hzz.out (by simp <;> omega)) hh2 (by simp <;> omega) (by omega) (by omega) HO.out HP.out⟩
        · go_wp2_with fail
          go_meet
          exact ⟨bl1, cl1, bp1, cp1, wr.heap.size, wr.heap.size + 1, rfl, rfl, rfl, After.at (after4 _ _ _ _ _ _ _ _ _ _ _ _ Hzz.out Hvv.out (by omega) (by simp <;> omega) (by simp <;> omega)) hh2 (by simp <;> omega) (by omega) (by omega) HO.out HP.out⟩
        · go_wp2_with fail
          go_meet
          exact ⟨bl1, cl1, bp1, cp1, w1.heap.size, wr.heap.size, rfl, rfl, rfl, After.at (after5 _ _ _ _ _ _ _ _ _ _ _ _ Hvv.out (by simp <;> omega)) hh2 (by simp <;> omega) (by omega) (by omega) HO.out HP.out⟩
        · go_wp2_with fail
          go_meet
          exact ⟨bl1, cl1, bp1, cp1, wr.heap.size + 1, wr.heap.size, rfl, rfl, rfl, After.at (after4 _ _ _ _ _ _ _ _ _ _ _ _ Hzz.out Hvv.out (by omega) (by simp <;> omega) (by simp <;> omega)) hh2 (by simp <;> omega) (by omega) (by omega) HO.out HP.out⟩
      case rest =>
        obtain ⟨bl1, cl1, bp1, cp1, x6, x7, rfl, rfl, rfl, hat⟩ := hcut
        have HR0 := Lib.hid (show ∀ i : Fin 8, True from fun _ => trivial)
        have c0 := r0 _ hat.bel
        have c1 := r1 _ hat.bel
        have c2 := r2 _ hat.bel
        have c3 := r3 _ hat.bel
        have c4 := r4 _ hat.bel
        have c5 := r5 _ hat.bel
        have c6 := r6 _ hat.bel
        have c7 := r7 _ hat.bel
        have hB3 := HB.out.below' hat.bel
        have hB4 := HB2.out.below' hat.bel
        have hst3 := HST2.out wc hat.bel
        clear q0 q1 q2 q3 q4 r0 r1 r2 r3 r4 r5 r6 r7 hst HR0 hh0
        generalize wc = w1 at *
        have hsz1 := hat.bel.size
        have ha1 : A.block < w1.heap.size := by omega
        have HAT := Lib.hid hat; have HB3 := Lib.hid hB3; have HB4 := Lib.hid hB4; clear hat hB3 hB4
        have ha := ha1
        have hh0 : Hold w1 w1 := Below.refl _ _
        have q0 : ∀ w', Hold w1 w' → w'.cell? ⟨w.heap.size + 1, 0, none⟩ = some (.int .i64 s.qty) := fun w' h => by rw [(HB4.out.below' h).cell]; rfl
        have q1 : ∀ w', Hold w1 w' → w'.cell? ⟨w.heap.size + 1, 1, none⟩ = some (.int .i64 s.val) := fun w' h => by rw [(HB4.out.below' h).cell]; rfl
        have q2 : ∀ w', Hold w1 w' → w'.cell? ⟨w.heap.size + 1, 2, none⟩ = some (.int .i64 s.price) := fun w' h => by rw [(HB4.out.below' h).cell]; rfl
        have q3 : ∀ w', Hold w1 w' → w'.cell? ⟨w.heap.size + 1, 3, none⟩ = some (.slice blr s.lays.length clr) := fun w' h => by rw [(HB4.out.below' h).cell]; rfl
        have q4 : ∀ w', Hold w1 w' → w'.cell? ⟨w.heap.size + 1, 4, none⟩ = some (.slice bpr s.psts.length cpr) := fun w' h => by rw [(HB4.out.below' h).cell]; rfl
        have r0 : ∀ w', Hold w1 w' → w'.cell? A = some (.int .i64 m.seq) := fun w' h => (Below.cell h (show (A : Addr).block < w1.heap.size from ha)).trans c0
        have r1 : ∀ w', Hold w1 w' → w'.cell? ⟨A.block, A.off + 1, none⟩ = some (.int .i64 m.value) := fun w' h => (Below.cell h (show (⟨A.block, A.off + 1, none⟩ : Addr).block < w1.heap.size from ha)).trans c1
        have r2 : ∀ w', Hold w1 w' → w'.cell? ⟨A.block, A.off + 2, none⟩ = some (.string m.item) := fun w' h => (Below.cell h (show (⟨A.block, A.off + 2, none⟩ : Addr).block < w1.heap.size from ha)).trans c2
        have r3 : ∀ w', Hold w1 w' → w'.cell? ⟨A.block, A.off + 3, none⟩ = some (.int .i64 m.kind) := fun w' h => (Below.cell h (show (⟨A.block, A.off + 3, none⟩ : Addr).block < w1.heap.size from ha)).trans c3
        have r4 : ∀ w', Hold w1 w' → w'.cell? ⟨A.block, A.off + 4, none⟩ = some (.int .i64 m.qty) := fun w' h => (Below.cell h (show (⟨A.block, A.off + 4, none⟩ : Addr).block < w1.heap.size from ha)).trans c4
        have r5 : ∀ w', Hold w1 w' → w'.cell? ⟨A.block, A.off + 5, none⟩ = some (.int .i64 m.cost) := fun w' h => (Below.cell h (show (⟨A.block, A.off + 5, none⟩ : Addr).block < w1.heap.size from ha)).trans c5
        have r6 : ∀ w', Hold w1 w' → w'.cell? ⟨A.block, A.off + 6, none⟩ = some (.string m.lot) := fun w' h => (Below.cell h (show (⟨A.block, A.off + 6, none⟩ : Addr).block < w1.heap.size from ha)).trans c6
        have r7 : ∀ w', Hold w1 w' → w'.cell? ⟨A.block, A.off + 7, none⟩ = some (.int .i64 m.ref) := fun w' h => (Below.cell h (show (⟨A.block, A.off + 7, none⟩ : Addr).block < w1.heap.size from ha)).trans c7
        clear c0 c1 c2 c3 c4 c5 c6 c7
        go_upto_region 6 with fail
        go_cut [9, 10, 11] (fun v9 v10 v11 W => ∃ bl2 cl2 bp2 cp2 x9 x10, v9 = .pointer (some ⟨x9, 0, none⟩) ∧ v10 = .pointer (some ⟨x10, 0, none⟩) ∧ v11 = .int .i64 r.err ∧ StepAt w1 r bl2 cl2 bp2 cp2 x9 x10 W)
        case first =>
          go_region_held3 (fun w' => Hold w1 w')
            (((try dsimp only); (repeat' first | with_reducible assumption | with_reducible refine Hold.drew ?_ | with_reducible refine Hold.alloc ?_ _ | with_reducible refine Hold.setCell ?_ (by simp <;> omega) _)))
            ((first
            | (go_at_call 15; refine (hst3 _ ?_).mono ?_
               exact (by ((try dsimp only); (repeat' first | with_reducible assumption | with_reducible refine Hold.drew ?_ | with_reducible refine Hold.alloc ?_ _ | with_reducible refine Hold.setCell ?_ (by simp <;> omega) _)))
               rintro e w2 ⟨hX, bl2, cl2, bp2, cp2, rfl, hb2, ho, hp⟩
               (first | (have zz : Blk w2 w1.heap.size 32 stkZ := Blk.below' (by with_reducible first | exact (Blk.new _ _ _).drew | exact ((Blk.new _ _ _).alloc _).drew | exact Blk.new _ _ _ | exact (Blk.new _ _ _).alloc _) hb2; have Hzz := Lib.hid zz; obtain ⟨z0, z1, z2, z3, z4, gz, lz, nz, nz1⟩ := z32 zz; clear zz) | (have zz : Blk w2 (w1.heap.size + 1) 32 stkZ := Blk.below' (by with_reducible first | exact (Blk.new2 _ _ _ _).drew | exact Blk.new2 _ _ _ _) hb2; have Hzz := Lib.hid zz; obtain ⟨z0, z1, z2, z3, z4, gz, lz, nz, nz1⟩ := z32 zz; clear zz) | skip)
               (first | (have vv : Blk w2 w1.heap.size 34 cstZ := Blk.below' (by with_reducible first | exact (Blk.new _ _ _).drew | exact ((Blk.new _ _ _).alloc _).drew | exact Blk.new _ _ _ | exact (Blk.new _ _ _).alloc _) hb2; have Hvv := Lib.hid vv; obtain ⟨v0, v1, v2, v3, gv, lv, nv, nv1⟩ := z34 vv; clear vv) | (have vv : Blk w2 (w1.heap.size + 1) 34 cstZ := Blk.below' (by with_reducible first | exact (Blk.new2 _ _ _ _).drew | exact Blk.new2 _ _ _ _) hb2; have Hvv := Lib.hid vv; obtain ⟨v0, v1, v2, v3, gv, lv, nv, nv1⟩ := z34 vv; clear vv) | skip)
               have hh2 : Hold w1 w2 := Hold.bel hX hb2
               have hs2 := hb2.size
               have hs0 := Hold.size hX
               (try simp only [World.size_alloc, World.size_drew] at hs2 hs0)
               have HO := Lib.hid ho; have HP := Lib.hid hp; clear ho hp hb2)))
          · go_wp2_with fail
            go_meet
            exact ⟨bl2, cl2, bp2, cp2, w2.heap.size, w2.heap.size + 1, rfl, rfl, rfl, After.at (after1 _ _ _ _ _ _ _ _ _ _ _) hh2 (by simp <;> omega) (by omega) (by omega) HO.out HP.out⟩
          · go_wp2_with fail
            go_meet
            exact ⟨bl2, cl2, bp2, cp2, w2.heap.size + 1, w2.heap.size, rfl, rfl, rfl, After.at (after2 _ _ _ _ _ _ _ _ _ _ _) hh2 (by simp <;> omega) (by omega) (by omega) HO.out HP.out⟩
          · go_wp2_with fail
            go_meet
            exact ⟨bl2, cl2, bp2, cp2, w1.heap.size, w2.heap.size, rfl, rfl, rfl, After.at (after3 _ _ _ _ _ _ _ _ _ _ _ _ Hzz.out (by simp <;> omega)) hh2 (by simp <;> omega) (by omega) (by omega) HO.out HP.out⟩
          · go_wp2_with fail
            go_meet
            exact ⟨bl2, cl2, bp2, cp2, w1.heap.size, w1.heap.size + 1, rfl, rfl, rfl, After.at (after4 _ _ _ _ _ _ _ _ _ _ _ _ Hzz.out Hvv.out (by omega) (by simp <;> omega) (by simp <;> omega)) hh2 (by simp <;> omega) (by omega) (by omega) HO.out HP.out⟩
          · go_wp2_with fail
            go_meet
            exact ⟨bl2, cl2, bp2, cp2, w2.heap.size, w1.heap.size, rfl, rfl, rfl, After.at (after5 _ _ _ _ _ _ _ _ _ _ _ _ Hvv.out (by simp <;> omega)) hh2 (by simp <;> omega) (by omega) (by omega) HO.out HP.out⟩
          · go_wp2_with fail
            go_meet
            exact ⟨bl2, cl2, bp2, cp2, w1.heap.size + 1, w1.heap.size, rfl, rfl, rfl, After.at (after4 _ _ _ _ _ _ _ _ _ _ _ _ Hzz.out Hvv.out (by omega) (by simp <;> omega) (by simp <;> omega)) hh2 (by simp <;> omega) (by omega) (by omega) HO.out HP.out⟩
        case rest =>
          obtain ⟨bl2, cl2, bp2, cp2, x9, x10, rfl, rfl, rfl, hat2⟩ := hcut
          clear q0 q1 q2 q3 q4 r0 r1 r2 r3 r4 r5 r6 r7 hst3 hh0
          generalize wc = w2 at *
          have t6 := HAT.out.t.below' hat2.bel
          have u7 := HAT.out.c.below' hat2.bel
          have l1 := HAT.out.l.below' hat2.bel
          have p1 := HAT.out.p.below' hat2.bel
          have hB5 := HB3.out.below' hat2.bel
          have hB6 := HB4.out.below' hat2.bel
          have hsame := same_any r.stk.qty r.stk.val r.stk.price bl1 cl1 bp1 cp1 bl2 cl2 bp2 cp2 r.stk.lays r.stk.psts w2 (l1.mono (Nat.zero_le _)) (p1.mono (Nat.zero_le _)) (hat2.l.mono (Nat.zero_le _)) (hat2.p.mono (Nat.zero_le _)) (by omega) (by omega)
          have t0 : w2.cell? ⟨x6, 0, none⟩ = some (.int .i64 r.stk.qty) := by rw [t6.cell]; rfl
          have t1 : w2.cell? ⟨x6, 1, none⟩ = some (.int .i64 r.stk.val) := by rw [t6.cell]; rfl
          have t2 : w2.cell? ⟨x6, 2, none⟩ = some (.int .i64 r.stk.price) := by rw [t6.cell]; rfl
          have t3 : w2.cell? ⟨x6, 3, none⟩ = some (.slice bl1 r.stk.lays.length cl1) := by rw [t6.cell]; rfl
          have t4 : w2.cell? ⟨x6, 4, none⟩ = some (.slice bp1 r.stk.psts.length cp1) := by rw [t6.cell]; rfl
          have u0 : w2.cell? ⟨x9, 0, none⟩ = some (.int .i64 r.stk.qty) := by rw [hat2.t.cell]; rfl
          have u1 : w2.cell? ⟨x9, 1, none⟩ = some (.int .i64 r.stk.val) := by rw [hat2.t.cell]; rfl
          have u2 : w2.cell? ⟨x9, 2, none⟩ = some (.int .i64 r.stk.price) := by rw [hat2.t.cell]; rfl
          have u3 : w2.cell? ⟨x9, 3, none⟩ = some (.slice bl2 r.stk.lays.length cl2) := by rw [hat2.t.cell]; rfl
          have u4 : w2.cell? ⟨x9, 4, none⟩ = some (.slice bp2 r.stk.psts.length cp2) := by rw [hat2.t.cell]; rfl
          have hx6 := HAT.out.h5
          have hx7 := HAT.out.h6
          have hx9 := hat2.h5
          have hx10 := hat2.h6
          have hsz2 := hat2.bel.size
          have HT6 := Lib.hid t6; have HU7 := Lib.hid u7; have HL1 := Lib.hid l1; have HP1 := Lib.hid p1; have HB5 := Lib.hid hB5; have HB6 := Lib.hid hB6; have HAT2 := Lib.hid hat2; clear t6 u7 l1 p1 hB5 hB6 hat2 HB3 HB4
          go_wp2_with fail
          refine hsame.mono ?_
          rintro e w3 ⟨rfl, hb3⟩
          have t6 := HT6.out.below' hb3
          have u7 := HU7.out.below' hb3
          have t9 := HAT2.out.t.below' hb3
          have u10 := HAT2.out.c.below' hb3
          have l1 := HL1.out.below' hb3
          have p1 := HP1.out.below' hb3
          have l2 := HAT2.out.l.below' hb3
          have p2 := HAT2.out.p.below' hb3
          have hB5 := HB5.out.below' hb3
          have hB6 := HB6.out.below' hb3
          have hbw : Below w.heap.size w w3 := ((HBEL.out.trans (HAT.out.bel.mono hsz)).trans (HAT2.out.bel.mono (by omega))).trans (hb3.mono (by omega))
          clear t0 t1 t2 t3 t4 u0 u1 u2 u3 u4
          have d0 : w3.cell? ⟨x7, 0, none⟩ = some (.int .i64 r.cst.seq) := by rw [u7.cell]; rfl
          have d1 : w3.cell? ⟨x7, 1, none⟩ = some (.int .i64 r.cst.qty) := by rw [u7.cell]; rfl
          have d2 : w3.cell? ⟨x7, 2, none⟩ = some (.int .i64 r.cst.val) := by rw [u7.cell]; rfl
          have d3 : w3.cell? ⟨x7, 3, none⟩ = some (.int .i64 r.cst.var) := by rw [u7.cell]; rfl
          have f0 : w3.cell? ⟨x10, 0, none⟩ = some (.int .i64 r.cst.seq) := by rw [u10.cell]; rfl
          have f1 : w3.cell? ⟨x10, 1, none⟩ = some (.int .i64 r.cst.qty) := by rw [u10.cell]; rfl
          have f2 : w3.cell? ⟨x10, 2, none⟩ = some (.int .i64 r.cst.val) := by rw [u10.cell]; rfl
          have f3 : w3.cell? ⟨x10, 3, none⟩ = some (.int .i64 r.cst.var) := by rw [u10.cell]; rfl
          have hb03 : Below wr.heap.size wr w3 := (HAT.out.bel.trans (HAT2.out.bel.mono (by omega))).trans (hb3.mono (by omega))
          have HB03 := Lib.hid hb03; clear hb03
          have HBW := Lib.hid hbw; have HT6 := Lib.hid t6; have HT9 := Lib.hid t9; have HL1 := Lib.hid l1; have HP1 := Lib.hid p1; have HL2 := Lib.hid l2; have HP2 := Lib.hid p2; have HB5 := Lib.hid hB5; have HB6 := Lib.hid hB6
          clear hbw t6 u7 t9 u10 l1 p1 l2 p2 hB5 hB6 hb3 hsame HU7
          by_cases he : r.err = 0
          · have he' : (r.err == 0) = true := by simpa using he
            have HPK := Lib.hid (show playK ms (k + 1) = r.stk by rw [HS.out, if_pos he]); clear he HS
            go_upto_region 10 with fail
            have t0 : w3.cell? ⟨x6, 0, none⟩ = some (.int .i64 r.stk.qty) := by rw [HT6.out.cell]; rfl
            have t1 : w3.cell? ⟨x6, 1, none⟩ = some (.int .i64 r.stk.val) := by rw [HT6.out.cell]; rfl
            have t2 : w3.cell? ⟨x6, 2, none⟩ = some (.int .i64 r.stk.price) := by rw [HT6.out.cell]; rfl
            have t3 : w3.cell? ⟨x6, 3, none⟩ = some (.slice bl1 r.stk.lays.length cl1) := by rw [HT6.out.cell]; rfl
            have t4 : w3.cell? ⟨x6, 4, none⟩ = some (.slice bp1 r.stk.psts.length cp1) := by rw [HT6.out.cell]; rfl
            have u0 : w3.cell? ⟨x9, 0, none⟩ = some (.int .i64 r.stk.qty) := by rw [HT9.out.cell]; rfl
            have u1 : w3.cell? ⟨x9, 1, none⟩ = some (.int .i64 r.stk.val) := by rw [HT9.out.cell]; rfl
            have u2 : w3.cell? ⟨x9, 2, none⟩ = some (.int .i64 r.stk.price) := by rw [HT9.out.cell]; rfl
            have u3 : w3.cell? ⟨x9, 3, none⟩ = some (.slice bl2 r.stk.lays.length cl2) := by rw [HT9.out.cell]; rfl
            have u4 : w3.cell? ⟨x9, 4, none⟩ = some (.slice bp2 r.stk.psts.length cp2) := by rw [HT9.out.cell]; rfl
            have a0 : w3.cell? ⟨w.heap.size, 0, none⟩ = some (.int .i64 s.qty) := by rw [HB5.out.cell]; rfl
            have a1 : w3.cell? ⟨w.heap.size, 1, none⟩ = some (.int .i64 s.val) := by rw [HB5.out.cell]; rfl
            have a2 : w3.cell? ⟨w.heap.size, 2, none⟩ = some (.int .i64 s.price) := by rw [HB5.out.cell]; rfl
            have a3 : w3.cell? ⟨w.heap.size, 3, none⟩ = some (.slice bls s.lays.length cls) := by rw [HB5.out.cell]; rfl
            have a4 : w3.cell? ⟨w.heap.size, 4, none⟩ = some (.slice bps s.psts.length cps) := by rw [HB5.out.cell]; rfl
            have b0 : w3.cell? ⟨w.heap.size + 1, 0, none⟩ = some (.int .i64 s.qty) := by rw [HB6.out.cell]; rfl
            have b1 : w3.cell? ⟨w.heap.size + 1, 1, none⟩ = some (.int .i64 s.val) := by rw [HB6.out.cell]; rfl
            have b2 : w3.cell? ⟨w.heap.size + 1, 2, none⟩ = some (.int .i64 s.price) := by rw [HB6.out.cell]; rfl
            have b3 : w3.cell? ⟨w.heap.size + 1, 3, none⟩ = some (.slice blr s.lays.length clr) := by rw [HB6.out.cell]; rfl
            have b4 : w3.cell? ⟨w.heap.size + 1, 4, none⟩ = some (.slice bpr s.psts.length cpr) := by rw [HB6.out.cell]; rfl
            have fa := fun o => HB5.out.frozen o
            have fb := fun o => HB6.out.frozen o
            have e1 : w.heap.size ≠ x6 := by omega
            have e2 : w.heap.size ≠ x9 := by omega
            have e3 : w.heap.size + 1 ≠ x6 := by omega
            have e4 : w.heap.size + 1 ≠ x9 := by omega
            have e5 : x6 ≠ w.heap.size := by omega
            have e6 : x9 ≠ w.heap.size := by omega
            have e7 : x6 ≠ w.heap.size + 1 := by omega
            have e8 : x9 ≠ w.heap.size + 1 := by omega
            go_region_held3 (fun w' => w'.cell? ⟨x6, 0, none⟩ = some (.int .i64 r.stk.qty) ∧ w'.cell? ⟨x6, 1, none⟩ = some (.int .i64 r.stk.val) ∧ w'.cell? ⟨x6, 2, none⟩ = some (.int .i64 r.stk.price) ∧ w'.cell? ⟨x6, 3, none⟩ = some (.slice bl1 r.stk.lays.length cl1) ∧ w'.cell? ⟨x6, 4, none⟩ = some (.slice bp1 r.stk.psts.length cp1) ∧ w'.cell? ⟨x9, 0, none⟩ = some (.int .i64 r.stk.qty) ∧ w'.cell? ⟨x9, 1, none⟩ = some (.int .i64 r.stk.val) ∧ w'.cell? ⟨x9, 2, none⟩ = some (.int .i64 r.stk.price) ∧ w'.cell? ⟨x9, 3, none⟩ = some (.slice bl2 r.stk.lays.length cl2) ∧ w'.cell? ⟨x9, 4, none⟩ = some (.slice bp2 r.stk.psts.length cp2)) (go_keep) (fail)
            go_wp2_with fail
            go_roundg (N - (k + 1))
            case measure => rw [HGK.out]; omega
            case rel =>
              refine ⟨k + 1, by go_num, by omega, rfl, ?_, ?_⟩
              · have hbw := HBW.out
                repeat (first | with_reducible exact hbw | with_reducible refine Below.drew ?_ | with_reducible refine Below.setCell ?_ (by simp <;> omega) _)
              · rw [HPK.out]
                have kp : ∀ (g : Nat) (e : TypeId) (cur : Array Value), w.heap.size + 2 ≤ g → Blk w3 g e cur → Blk (set5 (set5 w3 w.heap.size (.int .i64 r.stk.qty) (.int .i64 r.stk.val) (.int .i64 r.stk.price) (.slice bl1 r.stk.lays.length cl1) (.slice bp1 r.stk.psts.length cp1)) (w.heap.size + 1) (.int .i64 r.stk.qty) (.int .i64 r.stk.val) (.int .i64 r.stk.price) (.slice bl2 r.stk.lays.length cl2) (.slice bp2 r.stk.psts.length cp2)).drew g e cur := fun g e cur hg hb => ((hb.set5_other _ _ _ _ _ (by omega)).set5_other _ _ _ _ _ (by omega)).drew
                exact ⟨bl1, cl1, bp1, cp1, bl2, cl2, bp2, cp2, ((set5_blk HB5.out _ _ _ _ _).set5_other _ _ _ _ _ (by simp)).drew, (set5_blk (HB6.out.set5_other _ _ _ _ _ (by simp)) _ _ _ _ _).drew,
                  (HL1.out.mono (by omega)).keep kp, (HP1.out.mono (by omega)).keep kp, (HL2.out.mono (by omega)).keep kp, (HP2.out.mono (by omega)).keep kp⟩
          · have he' : (r.err == 0) = false := by simpa using he
            have HPK := Lib.hid (show playK ms (k + 1) = s by rw [HS.out, if_neg he]); clear he HS
            go_wp2_with fail
            go_roundg (N - (k + 1))
            case measure => rw [HGK.out]; omega
            case rel =>
              refine ⟨k + 1, by go_num, by omega, rfl, HBW.out, ?_⟩
              rw [HPK.out]
              exact ⟨bls, cls, bps, cps, blr, clr, bpr, cpr, HB5.out, HB6.out, HOL.out.below' HB03.out, HOP.out.below' HB03.out, HOL2.out.below' HB03.out, HOP2.out.below' HB03.out⟩
    · have hkN' : k = N := by omega
      subst hkN'
      have HBEL := Lib.hid hbel
      clear hB hB2 hol hop hol2 hop2 hbel hgood hgk hn1 hn2
      by_cases h1 : k < ms.length
      · have t1 : decide ((k : Int) < (ms.length : Int)) = true := by simp; omega
        have t2 : decide ((k : Int) < 60) = false := by have := HN.out; simp; omega
        go_wp2_with fail
        refine (lives_any _ (HLE.out.below HBEL.out)).mono ?_
        rintro e w2 ⟨rfl, hb2⟩
        have HB2 := Lib.hid (HBEL.out.trans (hb2.mono HBEL.out.size)); clear hb2
        go_wp2_with fail
        go_ret
        exact ⟨rfl, HB2.out⟩
      · have t1 : decide ((k : Int) < (ms.length : Int)) = false := by simp; omega
        go_wp2_with fail
        refine (lives_any _ (HLE.out.below HBEL.out)).mono ?_
        rintro e w2 ⟨rfl, hb2⟩
        have HB2 := Lib.hid (HBEL.out.trans (hb2.mono HBEL.out.size)); clear hb2
        go_wp2_with fail
        go_ret
        exact ⟨rfl, HB2.out⟩
end Go.Proofs.YtboiipkbhbbgfaaDoor
