/- The walk of play. -/
import Derived.Test.YtboiipkbhbbgfaaDoorJ4
namespace Go.Proofs.YtboiipkbhbbgfaaDoor
open Go.RowKit

/-- the state that play holds after k movements -/
structure PlayR (w : World) (ms : List Mov) (k : Nat) (wr : World) : Prop where
  bel : Below w.heap.size w wr
  st : ∃ bl cl bp cp, Blk wr (w.heap.size + 1) 32 #[.int .i64 (playK ms k).qty, .int .i64 (playK ms k).val, .int .i64 (playK ms k).price, .slice bl (playK ms k).lays.length cl, .slice bp (playK ms k).psts.length cp] ∧
    OwnL wr (w.heap.size + 2) (.slice bl (playK ms k).lays.length cl) (playK ms k).lays ∧ OwnP wr (w.heap.size + 2) (.slice bp (playK ms k).psts.length cp) (playK ms k).psts
  res : Blk wr w.heap.size 32 stkZ

/-- what play returns -/
def PlayPost (s : Stk) (w : World) (e : Ending) (w' : World) : Prop :=
  ∃ bl cl bp cp, e = .returned (.agg #[.int .i64 s.qty, .int .i64 s.val, .int .i64 s.price, .slice bl s.lays.length cl, .slice bp s.psts.length cp]) ∧ Below w.heap.size w w' ∧ OwnL w' w.heap.size (.slice bl s.lays.length cl) s.lays ∧ OwnP w' w.heap.size (.slice bp s.psts.length cp) s.psts

set_option maxRecDepth 100000 in
set_option maxHeartbeats 8000000 in
theorem play_any (ms : List Mov) (bv : Option Addr) (cv : Nat) (w : World) (hm : Rd w 8 (.slice bv ms.length cv) ms.length (movsC ms)) (_hmm : ms.length ≤ maxLen) (hok : ∀ m ∈ ms, MovOk m) (hlen : LengthsAt w) :
    Calls Tryd.prog 18 #[.slice bv ms.length cv] w (PlayPost (playK ms (min ms.length 60)) w) := by
  have HM := Lib.hid hm; have HLE := Lib.hid hlen; have HOK := Lib.hid hok; clear hm hlen hok
  generalize hN : min ms.length 60 = N at *
  have hN1 : N ≤ ms.length := by omega
  have hN2 : N ≤ 60 := by omega
  have HN := Lib.hid hN; clear hN
  go_enter Tryd.func18, Tryd.ntmps18
  go_wp2_with fail
  have hP0 : PlayR w ms 0 ((w.alloc (.cells stkZ 32)).alloc (.cells stkZ 32)) := by
    have h0 : playK ms 0 = zStk := by simp [playK, playM]
    refine ⟨((Below.refl _ _).alloc (Nat.le_refl _) _).alloc (by simp) _, ⟨none, 0, none, 0, ?_⟩, (Blk.new w 32 stkZ).alloc _⟩
    rw [h0]
    exact ⟨Blk.new2 w _ 32 stkZ, .inl ⟨rfl, rfl⟩, .inl ⟨rfl, rfl⟩⟩
  have HP0 := Lib.hid hP0; clear hP0
  go_loopg [4] N (fun g i wr => ∃ k : Nat, i = .int .i64 k ∧ k ≤ N ∧ g = N - k ∧ PlayR w ms k wr)
  case atStart => exact ⟨0, rfl, Nat.zero_le _, rfl, HP0.out⟩
  case round =>
    obtain ⟨k, rfl, hkN, hgk, hR⟩ := hrel
    obtain ⟨hbel, ⟨bl, cl, bp, cp, hB, hol, hop⟩, hres⟩ := hR
    obtain ⟨hn1, hn2, hgood⟩ := play_len ms k (by omega)
    by_cases hk : k < N
    · have t1 : decide ((k : Int) < (ms.length : Int)) = true := by simp; omega
      have t2 : decide ((k : Int) < 60) = true := by simp; omega
      generalize hm : ms.getD k zMov = m
      have hmok : MovOk m := HOK.out m (by rw [← hm]; rw [List.getD_eq_getElem?_getD, List.getElem?_eq_getElem (by omega)]; simp)
      have hsucc := playK_succ ms k (by omega)
      rw [hm] at hsucc
      generalize playK ms k = s at *
      have hrd := HM.out.below hbel
      obtain ⟨a, rfl⟩ : ∃ a, bv = some a := by
        rcases hrd.2 with ⟨h1, h2⟩ | ⟨a, c, h1, _⟩
        · omega
        · injection h1 with h1; exact ⟨a, h1⟩
      obtain ⟨c0, c1, c2, c3, c4, c5, c6, c7⟩ := mov_cells hrd k (by omega) m hm
      have b0 : wr.cell? ⟨w.heap.size + 1, 0, none⟩ = some (.int .i64 s.qty) := by rw [hB.cell]; rfl
      have b1 : wr.cell? ⟨w.heap.size + 1, 1, none⟩ = some (.int .i64 s.val) := by rw [hB.cell]; rfl
      have b2 : wr.cell? ⟨w.heap.size + 1, 2, none⟩ = some (.int .i64 s.price) := by rw [hB.cell]; rfl
      have b3 : wr.cell? ⟨w.heap.size + 1, 3, none⟩ = some (.slice bl s.lays.length cl) := by rw [hB.cell]; rfl
      have b4 : wr.cell? ⟨w.heap.size + 1, 4, none⟩ = some (.slice bp s.psts.length cp) := by rw [hB.cell]; rfl
      have i1 : (0 : Int) ≤ (k : Int) := by omega
      have i2 : (k : Int) < (ms.length : Int) := by omega
      have HB := Lib.hid hB; have HOL := Lib.hid hol; have HOP := Lib.hid hop; have HRES := Lib.hid hres; have HBEL := Lib.hid hbel; have HMO := Lib.hid hmok; have HS := Lib.hid hsucc; have HG := Lib.hid hgood; have HGK := Lib.hid hgk
      clear hB hol hop hres hbel hmok hsucc hgood hgk hm hrd
      have hst : ∀ W0, Below wr.heap.size wr W0 → Calls Tryd.prog 14 #[.agg #[.int .i64 s.qty, .int .i64 s.val, .int .i64 s.price, .slice bl s.lays.length cl, .slice bp s.psts.length cp], m.v] W0 (StepQ (stepM s m) W0) := fun W0 h0 =>
        step_q s m bl cl bp cp W0 (w.heap.size + 2) (HOL.out.below' h0) (HOP.out.below' h0) (by omega) (by omega) HG.out HMO.out.qty HMO.out.cost (HLE.out.below (HBEL.out.trans (h0.mono HBEL.out.size)))
      generalize stepM s m = r at *
      have ha := World.block_lt_of_cell? wr _ c0
      generalize hA : a.add (k * 8) = A at *
      have hsz := HBEL.out.size
      have hsz1 := HB.out.lt
      have nb1 : wr.heap.size ≠ w.heap.size + 1 := by omega
      have nb2 : wr.heap.size ≠ w.heap.size := by omega
      have nb3 : wr.heap.size ≠ A.block := by omega
      have nb4 : wr.heap.size + 1 ≠ A.block := by omega
      have nb5 : wr.heap.size + 1 ≠ w.heap.size + 1 := by omega
      go_wp2_with fail
      go_region_held3 (fun w' => w'.cell? ⟨w.heap.size + 1, 0, none⟩ = some (.int .i64 s.qty) ∧ w'.cell? ⟨w.heap.size + 1, 1, none⟩ = some (.int .i64 s.val) ∧ w'.cell? ⟨w.heap.size + 1, 2, none⟩ = some (.int .i64 s.price) ∧ w'.cell? ⟨w.heap.size + 1, 3, none⟩ = some (.slice bl s.lays.length cl) ∧ w'.cell? ⟨w.heap.size + 1, 4, none⟩ = some (.slice bp s.psts.length cp) ∧ w'.cell? A = some (.int .i64 m.seq) ∧ w'.cell? ⟨A.block, A.off + 1, none⟩ = some (.int .i64 m.value) ∧ w'.cell? ⟨A.block, A.off + 2, none⟩ = some (.string m.item) ∧ w'.cell? ⟨A.block, A.off + 3, none⟩ = some (.int .i64 m.kind) ∧ w'.cell? ⟨A.block, A.off + 4, none⟩ = some (.int .i64 m.qty) ∧ w'.cell? ⟨A.block, A.off + 5, none⟩ = some (.int .i64 m.cost) ∧ w'.cell? ⟨A.block, A.off + 6, none⟩ = some (.string m.lot) ∧ w'.cell? ⟨A.block, A.off + 7, none⟩ = some (.int .i64 m.ref))
        (first | (go_keep; done) | ((try go_split_ands); (repeat' apply And.intro) <;> (first | (go_keep; done) | (rw [hb.cell (by simp <;> omega)]; (first | assumption | (go_keep; done))))))
        ((first
          | (go_at_call 14; refine (hst wr.drew (by (repeat' first | exact Below.refl _ _ | refine Below.drew ?_ | refine Below.alloc ?_ (by simp <;> omega) _))).mono ?_; rintro e w1 ⟨bl1, cl1, bp1, cp1, rfl, hb, ho, hp⟩
             have h0 : Below wr.heap.size wr (wr.drew) := (by (repeat' first | exact Below.refl _ _ | refine Below.drew ?_ | refine Below.alloc ?_ (by simp <;> omega) _))
             have hBb := h0.trans (hb.mono h0.size)
             have hs1 := hBb.size
             have hk1 := HB.out.below' hBb
             have n1 : w1.heap.size ≠ w.heap.size + 1 := by omega
             have n2 : w1.heap.size ≠ A.block := by omega
             have n3 : w1.heap.size + 1 ≠ A.block := by omega
             have n4 : w1.heap.size + 1 ≠ w.heap.size + 1 := by omega
             have fk := fun o => hk1.frozen o
             have y0 : w1.cell? ⟨w.heap.size + 1, 0, none⟩ = some (.int .i64 s.qty) := by rw [hk1.cell]; rfl
             have y1 : w1.cell? ⟨w.heap.size + 1, 1, none⟩ = some (.int .i64 s.val) := by rw [hk1.cell]; rfl
             have y2 : w1.cell? ⟨w.heap.size + 1, 2, none⟩ = some (.int .i64 s.price) := by rw [hk1.cell]; rfl
             have y3 : w1.cell? ⟨w.heap.size + 1, 3, none⟩ = some (.slice bl s.lays.length cl) := by rw [hk1.cell]; rfl
             have y4 : w1.cell? ⟨w.heap.size + 1, 4, none⟩ = some (.slice bp s.psts.length cp) := by rw [hk1.cell]; rfl
             have q0 : w1.cell? A = some (.int .i64 m.seq) := by rw [hBb.cell ha]; exact c0
             have q1 : w1.cell? ⟨A.block, A.off + 1, none⟩ = some (.int .i64 m.value) := (hBb.cell (show (⟨A.block, A.off + 1, none⟩ : Addr).block < wr.heap.size from ha)).trans c1
             have q2 : w1.cell? ⟨A.block, A.off + 2, none⟩ = some (.string m.item) := (hBb.cell (show (⟨A.block, A.off + 2, none⟩ : Addr).block < wr.heap.size from ha)).trans c2
             have q3 : w1.cell? ⟨A.block, A.off + 3, none⟩ = some (.int .i64 m.kind) := (hBb.cell (show (⟨A.block, A.off + 3, none⟩ : Addr).block < wr.heap.size from ha)).trans c3
             have q4 : w1.cell? ⟨A.block, A.off + 4, none⟩ = some (.int .i64 m.qty) := (hBb.cell (show (⟨A.block, A.off + 4, none⟩ : Addr).block < wr.heap.size from ha)).trans c4
             have q5 : w1.cell? ⟨A.block, A.off + 5, none⟩ = some (.int .i64 m.cost) := (hBb.cell (show (⟨A.block, A.off + 5, none⟩ : Addr).block < wr.heap.size from ha)).trans c5
             have q6 : w1.cell? ⟨A.block, A.off + 6, none⟩ = some (.string m.lot) := (hBb.cell (show (⟨A.block, A.off + 6, none⟩ : Addr).block < wr.heap.size from ha)).trans c6
             have q7 : w1.cell? ⟨A.block, A.off + 7, none⟩ = some (.int .i64 m.ref) := (hBb.cell (show (⟨A.block, A.off + 7, none⟩ : Addr).block < wr.heap.size from ha)).trans c7
             have HBW := Lib.hid (HBEL.out.trans (hBb.mono hsz)); have HR1 := Lib.hid (HRES.out.below' hBb)
             have HK1 := Lib.hid hk1; have HBB := Lib.hid hBb; have HO := Lib.hid ho; have HP := Lib.hid hp; have HH0 := Lib.hid h0; clear hk1 hBb ho hp h0)
          | (go_at_call 14; refine (hst (wr.drew.alloc (Obj.cells stkZ 32)) (by (repeat' first | exact Below.refl _ _ | refine Below.drew ?_ | refine Below.alloc ?_ (by simp <;> omega) _))).mono ?_; rintro e w1 ⟨bl1, cl1, bp1, cp1, rfl, hb, ho, hp⟩
             have h0 : Below wr.heap.size wr ((wr.drew.alloc (Obj.cells stkZ 32))) := (by (repeat' first | exact Below.refl _ _ | refine Below.drew ?_ | refine Below.alloc ?_ (by simp <;> omega) _))
             have hBb := h0.trans (hb.mono h0.size)
             have hs1 := hBb.size
             have hk1 := HB.out.below' hBb
             have n1 : w1.heap.size ≠ w.heap.size + 1 := by omega
             have n2 : w1.heap.size ≠ A.block := by omega
             have n3 : w1.heap.size + 1 ≠ A.block := by omega
             have n4 : w1.heap.size + 1 ≠ w.heap.size + 1 := by omega
             have fk := fun o => hk1.frozen o
             have y0 : w1.cell? ⟨w.heap.size + 1, 0, none⟩ = some (.int .i64 s.qty) := by rw [hk1.cell]; rfl
             have y1 : w1.cell? ⟨w.heap.size + 1, 1, none⟩ = some (.int .i64 s.val) := by rw [hk1.cell]; rfl
             have y2 : w1.cell? ⟨w.heap.size + 1, 2, none⟩ = some (.int .i64 s.price) := by rw [hk1.cell]; rfl
             have y3 : w1.cell? ⟨w.heap.size + 1, 3, none⟩ = some (.slice bl s.lays.length cl) := by rw [hk1.cell]; rfl
             have y4 : w1.cell? ⟨w.heap.size + 1, 4, none⟩ = some (.slice bp s.psts.length cp) := by rw [hk1.cell]; rfl
             have q0 : w1.cell? A = some (.int .i64 m.seq) := by rw [hBb.cell ha]; exact c0
             have q1 : w1.cell? ⟨A.block, A.off + 1, none⟩ = some (.int .i64 m.value) := (hBb.cell (show (⟨A.block, A.off + 1, none⟩ : Addr).block < wr.heap.size from ha)).trans c1
             have q2 : w1.cell? ⟨A.block, A.off + 2, none⟩ = some (.string m.item) := (hBb.cell (show (⟨A.block, A.off + 2, none⟩ : Addr).block < wr.heap.size from ha)).trans c2
             have q3 : w1.cell? ⟨A.block, A.off + 3, none⟩ = some (.int .i64 m.kind) := (hBb.cell (show (⟨A.block, A.off + 3, none⟩ : Addr).block < wr.heap.size from ha)).trans c3
             have q4 : w1.cell? ⟨A.block, A.off + 4, none⟩ = some (.int .i64 m.qty) := (hBb.cell (show (⟨A.block, A.off + 4, none⟩ : Addr).block < wr.heap.size from ha)).trans c4
             have q5 : w1.cell? ⟨A.block, A.off + 5, none⟩ = some (.int .i64 m.cost) := (hBb.cell (show (⟨A.block, A.off + 5, none⟩ : Addr).block < wr.heap.size from ha)).trans c5
             have q6 : w1.cell? ⟨A.block, A.off + 6, none⟩ = some (.string m.lot) := (hBb.cell (show (⟨A.block, A.off + 6, none⟩ : Addr).block < wr.heap.size from ha)).trans c6
             have q7 : w1.cell? ⟨A.block, A.off + 7, none⟩ = some (.int .i64 m.ref) := (hBb.cell (show (⟨A.block, A.off + 7, none⟩ : Addr).block < wr.heap.size from ha)).trans c7
             have hz : Blk w1 (wr.heap.size) 32 stkZ := (Blk.new wr.drew 32 stkZ).below' hb
             have gz := fun o => hz.frozen o
             have z0 : w1.cell? ⟨wr.heap.size, 0, none⟩ = some (.int .i64 0) := by rw [hz.cell]; rfl
             have z1 : w1.cell? ⟨wr.heap.size, 1, none⟩ = some (.int .i64 0) := by rw [hz.cell]; rfl
             have z2 : w1.cell? ⟨wr.heap.size, 2, none⟩ = some (.int .i64 0) := by rw [hz.cell]; rfl
             have z3 : w1.cell? ⟨wr.heap.size, 3, none⟩ = some (.slice none 0 0) := by rw [hz.cell]; rfl
             have z4 : w1.cell? ⟨wr.heap.size, 4, none⟩ = some (.slice none 0 0) := by rw [hz.cell]; rfl
             have lz := hz.lt
             have HZ := Lib.hid hz; clear hz
             have HBW := Lib.hid (HBEL.out.trans (hBb.mono hsz)); have HR1 := Lib.hid (HRES.out.below' hBb)
             have HK1 := Lib.hid hk1; have HBB := Lib.hid hBb; have HO := Lib.hid ho; have HP := Lib.hid hp; have HH0 := Lib.hid h0; clear hk1 hBb ho hp h0)
          | (go_at_call 14; refine (hst (wr.drew.alloc (Obj.cells cstZ 34)) (by (repeat' first | exact Below.refl _ _ | refine Below.drew ?_ | refine Below.alloc ?_ (by simp <;> omega) _))).mono ?_; rintro e w1 ⟨bl1, cl1, bp1, cp1, rfl, hb, ho, hp⟩
             have h0 : Below wr.heap.size wr ((wr.drew.alloc (Obj.cells cstZ 34))) := (by (repeat' first | exact Below.refl _ _ | refine Below.drew ?_ | refine Below.alloc ?_ (by simp <;> omega) _))
             have hBb := h0.trans (hb.mono h0.size)
             have hs1 := hBb.size
             have hk1 := HB.out.below' hBb
             have n1 : w1.heap.size ≠ w.heap.size + 1 := by omega
             have n2 : w1.heap.size ≠ A.block := by omega
             have n3 : w1.heap.size + 1 ≠ A.block := by omega
             have n4 : w1.heap.size + 1 ≠ w.heap.size + 1 := by omega
             have fk := fun o => hk1.frozen o
             have y0 : w1.cell? ⟨w.heap.size + 1, 0, none⟩ = some (.int .i64 s.qty) := by rw [hk1.cell]; rfl
             have y1 : w1.cell? ⟨w.heap.size + 1, 1, none⟩ = some (.int .i64 s.val) := by rw [hk1.cell]; rfl
             have y2 : w1.cell? ⟨w.heap.size + 1, 2, none⟩ = some (.int .i64 s.price) := by rw [hk1.cell]; rfl
             have y3 : w1.cell? ⟨w.heap.size + 1, 3, none⟩ = some (.slice bl s.lays.length cl) := by rw [hk1.cell]; rfl
             have y4 : w1.cell? ⟨w.heap.size + 1, 4, none⟩ = some (.slice bp s.psts.length cp) := by rw [hk1.cell]; rfl
             have q0 : w1.cell? A = some (.int .i64 m.seq) := by rw [hBb.cell ha]; exact c0
             have q1 : w1.cell? ⟨A.block, A.off + 1, none⟩ = some (.int .i64 m.value) := (hBb.cell (show (⟨A.block, A.off + 1, none⟩ : Addr).block < wr.heap.size from ha)).trans c1
             have q2 : w1.cell? ⟨A.block, A.off + 2, none⟩ = some (.string m.item) := (hBb.cell (show (⟨A.block, A.off + 2, none⟩ : Addr).block < wr.heap.size from ha)).trans c2
             have q3 : w1.cell? ⟨A.block, A.off + 3, none⟩ = some (.int .i64 m.kind) := (hBb.cell (show (⟨A.block, A.off + 3, none⟩ : Addr).block < wr.heap.size from ha)).trans c3
             have q4 : w1.cell? ⟨A.block, A.off + 4, none⟩ = some (.int .i64 m.qty) := (hBb.cell (show (⟨A.block, A.off + 4, none⟩ : Addr).block < wr.heap.size from ha)).trans c4
             have q5 : w1.cell? ⟨A.block, A.off + 5, none⟩ = some (.int .i64 m.cost) := (hBb.cell (show (⟨A.block, A.off + 5, none⟩ : Addr).block < wr.heap.size from ha)).trans c5
             have q6 : w1.cell? ⟨A.block, A.off + 6, none⟩ = some (.string m.lot) := (hBb.cell (show (⟨A.block, A.off + 6, none⟩ : Addr).block < wr.heap.size from ha)).trans c6
             have q7 : w1.cell? ⟨A.block, A.off + 7, none⟩ = some (.int .i64 m.ref) := (hBb.cell (show (⟨A.block, A.off + 7, none⟩ : Addr).block < wr.heap.size from ha)).trans c7
             have hv : Blk w1 (wr.heap.size) 34 cstZ := (Blk.new wr.drew 34 cstZ).below' hb
             have gv := fun o => hv.frozen o
             have v0 : w1.cell? ⟨wr.heap.size, 0, none⟩ = some (.int .i64 0) := by rw [hv.cell]; rfl
             have v1 : w1.cell? ⟨wr.heap.size, 1, none⟩ = some (.int .i64 0) := by rw [hv.cell]; rfl
             have v2 : w1.cell? ⟨wr.heap.size, 2, none⟩ = some (.int .i64 0) := by rw [hv.cell]; rfl
             have v3 : w1.cell? ⟨wr.heap.size, 3, none⟩ = some (.int .i64 0) := by rw [hv.cell]; rfl
             have lv := hv.lt
             have HV := Lib.hid hv; clear hv
             have HBW := Lib.hid (HBEL.out.trans (hBb.mono hsz)); have HR1 := Lib.hid (HRES.out.below' hBb)
             have HK1 := Lib.hid hk1; have HBB := Lib.hid hBb; have HO := Lib.hid ho; have HP := Lib.hid hp; have HH0 := Lib.hid h0; clear hk1 hBb ho hp h0)
          | (go_at_call 14; refine (hst ((wr.drew.alloc (Obj.cells stkZ 32)).alloc (Obj.cells cstZ 34)) (by (repeat' first | exact Below.refl _ _ | refine Below.drew ?_ | refine Below.alloc ?_ (by simp <;> omega) _))).mono ?_; rintro e w1 ⟨bl1, cl1, bp1, cp1, rfl, hb, ho, hp⟩
             have h0 : Below wr.heap.size wr (((wr.drew.alloc (Obj.cells stkZ 32)).alloc (Obj.cells cstZ 34))) := (by (repeat' first | exact Below.refl _ _ | refine Below.drew ?_ | refine Below.alloc ?_ (by simp <;> omega) _))
             have hBb := h0.trans (hb.mono h0.size)
             have hs1 := hBb.size
             have hk1 := HB.out.below' hBb
             have n1 : w1.heap.size ≠ w.heap.size + 1 := by omega
             have n2 : w1.heap.size ≠ A.block := by omega
             have n3 : w1.heap.size + 1 ≠ A.block := by omega
             have n4 : w1.heap.size + 1 ≠ w.heap.size + 1 := by omega
             have fk := fun o => hk1.frozen o
             have y0 : w1.cell? ⟨w.heap.size + 1, 0, none⟩ = some (.int .i64 s.qty) := by rw [hk1.cell]; rfl
             have y1 : w1.cell? ⟨w.heap.size + 1, 1, none⟩ = some (.int .i64 s.val) := by rw [hk1.cell]; rfl
             have y2 : w1.cell? ⟨w.heap.size + 1, 2, none⟩ = some (.int .i64 s.price) := by rw [hk1.cell]; rfl
             have y3 : w1.cell? ⟨w.heap.size + 1, 3, none⟩ = some (.slice bl s.lays.length cl) := by rw [hk1.cell]; rfl
             have y4 : w1.cell? ⟨w.heap.size + 1, 4, none⟩ = some (.slice bp s.psts.length cp) := by rw [hk1.cell]; rfl
             have q0 : w1.cell? A = some (.int .i64 m.seq) := by rw [hBb.cell ha]; exact c0
             have q1 : w1.cell? ⟨A.block, A.off + 1, none⟩ = some (.int .i64 m.value) := (hBb.cell (show (⟨A.block, A.off + 1, none⟩ : Addr).block < wr.heap.size from ha)).trans c1
             have q2 : w1.cell? ⟨A.block, A.off + 2, none⟩ = some (.string m.item) := (hBb.cell (show (⟨A.block, A.off + 2, none⟩ : Addr).block < wr.heap.size from ha)).trans c2
             have q3 : w1.cell? ⟨A.block, A.off + 3, none⟩ = some (.int .i64 m.kind) := (hBb.cell (show (⟨A.block, A.off + 3, none⟩ : Addr).block < wr.heap.size from ha)).trans c3
             have q4 : w1.cell? ⟨A.block, A.off + 4, none⟩ = some (.int .i64 m.qty) := (hBb.cell (show (⟨A.block, A.off + 4, none⟩ : Addr).block < wr.heap.size from ha)).trans c4
             have q5 : w1.cell? ⟨A.block, A.off + 5, none⟩ = some (.int .i64 m.cost) := (hBb.cell (show (⟨A.block, A.off + 5, none⟩ : Addr).block < wr.heap.size from ha)).trans c5
             have q6 : w1.cell? ⟨A.block, A.off + 6, none⟩ = some (.string m.lot) := (hBb.cell (show (⟨A.block, A.off + 6, none⟩ : Addr).block < wr.heap.size from ha)).trans c6
             have q7 : w1.cell? ⟨A.block, A.off + 7, none⟩ = some (.int .i64 m.ref) := (hBb.cell (show (⟨A.block, A.off + 7, none⟩ : Addr).block < wr.heap.size from ha)).trans c7
             have hz : Blk w1 (wr.heap.size) 32 stkZ := ((Blk.new wr.drew 32 stkZ).alloc (Obj.cells cstZ 34)).below' hb
             have gz := fun o => hz.frozen o
             have z0 : w1.cell? ⟨wr.heap.size, 0, none⟩ = some (.int .i64 0) := by rw [hz.cell]; rfl
             have z1 : w1.cell? ⟨wr.heap.size, 1, none⟩ = some (.int .i64 0) := by rw [hz.cell]; rfl
             have z2 : w1.cell? ⟨wr.heap.size, 2, none⟩ = some (.int .i64 0) := by rw [hz.cell]; rfl
             have z3 : w1.cell? ⟨wr.heap.size, 3, none⟩ = some (.slice none 0 0) := by rw [hz.cell]; rfl
             have z4 : w1.cell? ⟨wr.heap.size, 4, none⟩ = some (.slice none 0 0) := by rw [hz.cell]; rfl
             have lz := hz.lt
             have HZ := Lib.hid hz; clear hz
             have hv : Blk w1 (wr.heap.size + 1) 34 cstZ := (Blk.new2 wr.drew (Obj.cells stkZ 32) 34 cstZ).below' hb
             have gv := fun o => hv.frozen o
             have v0 : w1.cell? ⟨wr.heap.size + 1, 0, none⟩ = some (.int .i64 0) := by rw [hv.cell]; rfl
             have v1 : w1.cell? ⟨wr.heap.size + 1, 1, none⟩ = some (.int .i64 0) := by rw [hv.cell]; rfl
             have v2 : w1.cell? ⟨wr.heap.size + 1, 2, none⟩ = some (.int .i64 0) := by rw [hv.cell]; rfl
             have v3 : w1.cell? ⟨wr.heap.size + 1, 3, none⟩ = some (.int .i64 0) := by rw [hv.cell]; rfl
             have lv := hv.lt
             have HV := Lib.hid hv; clear hv
             have HBW := Lib.hid (HBEL.out.trans (hBb.mono hsz)); have HR1 := Lib.hid (HRES.out.below' hBb)
             have HK1 := Lib.hid hk1; have HBB := Lib.hid hBb; have HO := Lib.hid ho; have HP := Lib.hid hp; have HH0 := Lib.hid h0; clear hk1 hBb ho hp h0)
          | (go_at_call 14; refine (hst ((wr.drew.alloc (Obj.cells cstZ 34)).alloc (Obj.cells stkZ 32)) (by (repeat' first | exact Below.refl _ _ | refine Below.drew ?_ | refine Below.alloc ?_ (by simp <;> omega) _))).mono ?_; rintro e w1 ⟨bl1, cl1, bp1, cp1, rfl, hb, ho, hp⟩
             have h0 : Below wr.heap.size wr (((wr.drew.alloc (Obj.cells cstZ 34)).alloc (Obj.cells stkZ 32))) := (by (repeat' first | exact Below.refl _ _ | refine Below.drew ?_ | refine Below.alloc ?_ (by simp <;> omega) _))
             have hBb := h0.trans (hb.mono h0.size)
             have hs1 := hBb.size
             have hk1 := HB.out.below' hBb
             have n1 : w1.heap.size ≠ w.heap.size + 1 := by omega
             have n2 : w1.heap.size ≠ A.block := by omega
             have n3 : w1.heap.size + 1 ≠ A.block := by omega
             have n4 : w1.heap.size + 1 ≠ w.heap.size + 1 := by omega
             have fk := fun o => hk1.frozen o
             have y0 : w1.cell? ⟨w.heap.size + 1, 0, none⟩ = some (.int .i64 s.qty) := by rw [hk1.cell]; rfl
             have y1 : w1.cell? ⟨w.heap.size + 1, 1, none⟩ = some (.int .i64 s.val) := by rw [hk1.cell]; rfl
             have y2 : w1.cell? ⟨w.heap.size + 1, 2, none⟩ = some (.int .i64 s.price) := by rw [hk1.cell]; rfl
             have y3 : w1.cell? ⟨w.heap.size + 1, 3, none⟩ = some (.slice bl s.lays.length cl) := by rw [hk1.cell]; rfl
             have y4 : w1.cell? ⟨w.heap.size + 1, 4, none⟩ = some (.slice bp s.psts.length cp) := by rw [hk1.cell]; rfl
             have q0 : w1.cell? A = some (.int .i64 m.seq) := by rw [hBb.cell ha]; exact c0
             have q1 : w1.cell? ⟨A.block, A.off + 1, none⟩ = some (.int .i64 m.value) := (hBb.cell (show (⟨A.block, A.off + 1, none⟩ : Addr).block < wr.heap.size from ha)).trans c1
             have q2 : w1.cell? ⟨A.block, A.off + 2, none⟩ = some (.string m.item) := (hBb.cell (show (⟨A.block, A.off + 2, none⟩ : Addr).block < wr.heap.size from ha)).trans c2
             have q3 : w1.cell? ⟨A.block, A.off + 3, none⟩ = some (.int .i64 m.kind) := (hBb.cell (show (⟨A.block, A.off + 3, none⟩ : Addr).block < wr.heap.size from ha)).trans c3
             have q4 : w1.cell? ⟨A.block, A.off + 4, none⟩ = some (.int .i64 m.qty) := (hBb.cell (show (⟨A.block, A.off + 4, none⟩ : Addr).block < wr.heap.size from ha)).trans c4
             have q5 : w1.cell? ⟨A.block, A.off + 5, none⟩ = some (.int .i64 m.cost) := (hBb.cell (show (⟨A.block, A.off + 5, none⟩ : Addr).block < wr.heap.size from ha)).trans c5
             have q6 : w1.cell? ⟨A.block, A.off + 6, none⟩ = some (.string m.lot) := (hBb.cell (show (⟨A.block, A.off + 6, none⟩ : Addr).block < wr.heap.size from ha)).trans c6
             have q7 : w1.cell? ⟨A.block, A.off + 7, none⟩ = some (.int .i64 m.ref) := (hBb.cell (show (⟨A.block, A.off + 7, none⟩ : Addr).block < wr.heap.size from ha)).trans c7
             have hv : Blk w1 (wr.heap.size) 34 cstZ := ((Blk.new wr.drew 34 cstZ).alloc (Obj.cells stkZ 32)).below' hb
             have gv := fun o => hv.frozen o
             have v0 : w1.cell? ⟨wr.heap.size, 0, none⟩ = some (.int .i64 0) := by rw [hv.cell]; rfl
             have v1 : w1.cell? ⟨wr.heap.size, 1, none⟩ = some (.int .i64 0) := by rw [hv.cell]; rfl
             have v2 : w1.cell? ⟨wr.heap.size, 2, none⟩ = some (.int .i64 0) := by rw [hv.cell]; rfl
             have v3 : w1.cell? ⟨wr.heap.size, 3, none⟩ = some (.int .i64 0) := by rw [hv.cell]; rfl
             have lv := hv.lt
             have HV := Lib.hid hv; clear hv
             have hz : Blk w1 (wr.heap.size + 1) 32 stkZ := (Blk.new2 wr.drew (Obj.cells cstZ 34) 32 stkZ).below' hb
             have gz := fun o => hz.frozen o
             have z0 : w1.cell? ⟨wr.heap.size + 1, 0, none⟩ = some (.int .i64 0) := by rw [hz.cell]; rfl
             have z1 : w1.cell? ⟨wr.heap.size + 1, 1, none⟩ = some (.int .i64 0) := by rw [hz.cell]; rfl
             have z2 : w1.cell? ⟨wr.heap.size + 1, 2, none⟩ = some (.int .i64 0) := by rw [hz.cell]; rfl
             have z3 : w1.cell? ⟨wr.heap.size + 1, 3, none⟩ = some (.slice none 0 0) := by rw [hz.cell]; rfl
             have z4 : w1.cell? ⟨wr.heap.size + 1, 4, none⟩ = some (.slice none 0 0) := by rw [hz.cell]; rfl
             have lz := hz.lt
             have HZ := Lib.hid hz; clear hz
             have HBW := Lib.hid (HBEL.out.trans (hBb.mono hsz)); have HR1 := Lib.hid (HRES.out.below' hBb)
             have HK1 := Lib.hid hk1; have HBB := Lib.hid hBb; have HO := Lib.hid ho; have HP := Lib.hid hp; have HH0 := Lib.hid h0; clear hk1 hBb ho hp h0)))
      all_goals have hs1 := HBB.out.size
      · have hAf : After w1 wr.drew.heap.size (w1.heap.size) (w1.heap.size + 1) #[.int .i64 r.stk.qty, .int .i64 r.stk.val, .int .i64 r.stk.price, .slice bl1 r.stk.lays.length cl1, .slice bp1 r.stk.psts.length cp1] #[.int .i64 r.cst.seq, .int .i64 r.cst.qty, .int .i64 r.cst.val, .int .i64 r.cst.var] ((w1.alloc (.cells #[.int .i64 r.stk.qty, .int .i64 r.stk.val, .int .i64 r.stk.price, .slice bl1 r.stk.lays.length cl1, .slice bp1 r.stk.psts.length cp1] 32)).alloc (.cells #[.int .i64 r.cst.seq, .int .i64 r.cst.qty, .int .i64 r.cst.val, .int .i64 r.cst.var] 34)) := after1 _ _ _ _ _ _ _ _ _ _ _
        generalize ((w1.alloc (.cells #[.int .i64 r.stk.qty, .int .i64 r.stk.val, .int .i64 r.stk.price, .slice bl1 r.stk.lays.length cl1, .slice bp1 r.stk.psts.length cp1] 32)).alloc (.cells #[.int .i64 r.cst.seq, .int .i64 r.cst.qty, .int .i64 r.cst.val, .int .i64 r.cst.var] 34)) = W at *
        have hr5 : wr.heap.size ≤ w1.heap.size := by omega
        have hr6 : wr.heap.size ≤ w1.heap.size + 1 := by omega
        have hW3 := hAf.old HBB.out hr5 hr6 HB.out
        have hWr := hAf.old HBB.out hr5 hr6 HRES.out
        have fW := fun o => hW3.frozen o
        have g0 : W.cell? ⟨w.heap.size + 1, 0, none⟩ = some (.int .i64 s.qty) := by rw [hW3.cell]; rfl
        have g1 : W.cell? ⟨w.heap.size + 1, 1, none⟩ = some (.int .i64 s.val) := by rw [hW3.cell]; rfl
        have g2 : W.cell? ⟨w.heap.size + 1, 2, none⟩ = some (.int .i64 s.price) := by rw [hW3.cell]; rfl
        have g3 : W.cell? ⟨w.heap.size + 1, 3, none⟩ = some (.slice bl s.lays.length cl) := by rw [hW3.cell]; rfl
        have g4 : W.cell? ⟨w.heap.size + 1, 4, none⟩ = some (.slice bp s.psts.length cp) := by rw [hW3.cell]; rfl
        have k0 : W.cell? ⟨w1.heap.size, 0, none⟩ = some (.int .i64 r.stk.qty) := by rw [hAf.t.cell]; rfl
        have k1 : W.cell? ⟨w1.heap.size, 1, none⟩ = some (.int .i64 r.stk.val) := by rw [hAf.t.cell]; rfl
        have k2 : W.cell? ⟨w1.heap.size, 2, none⟩ = some (.int .i64 r.stk.price) := by rw [hAf.t.cell]; rfl
        have k3 : W.cell? ⟨w1.heap.size, 3, none⟩ = some (.slice bl1 r.stk.lays.length cl1) := by rw [hAf.t.cell]; rfl
        have k4 : W.cell? ⟨w1.heap.size, 4, none⟩ = some (.slice bp1 r.stk.psts.length cp1) := by rw [hAf.t.cell]; rfl
        clear q0 q1 q2 q3 q4 q5 q6 q7 y0 y1 y2 y3 y4 fk c0 c1 c2 c3 c4 c5 c6 c7 b0 b1 b2 b3 b4
        have HAF := Lib.hid hAf; have HW3 := Lib.hid hW3; have HWR := Lib.hid hWr; clear hAf hW3 hWr
        by_cases he : r.err = 0
        · have he' : (r.err == 0) = true := by simpa using he
          have hP : playK ms (k + 1) = r.stk := by rw [HS.out, if_pos he]
          have HPK := Lib.hid hP; clear hP he
          go_wp2_with fail
          go_roundg (N - (k + 1))
          case measure => rw [HGK.out]; omega
          case rel =>
            have hC := set5_chg W (w.heap.size + 1) (.int .i64 r.stk.qty) (.int .i64 r.stk.val) (.int .i64 r.stk.price) (.slice bl1 r.stk.lays.length cl1) (.slice bp1 r.stk.psts.length cp1)
            refine ⟨k + 1, by go_num, by omega, rfl, ⟨?_, ⟨bl1, cl1, bp1, cp1, ?_, ?_, ?_⟩, ?_⟩⟩
            · exact (HAF.out.below HBEL.out HBB.out hr5 hr6).trans (hC.below (HAF.out.below HBEL.out HBB.out hr5 hr6).size (by simp))
            · rw [HPK.out]; exact set5_blk HW3.out _ _ _ _ _
            · rw [HPK.out]
              exact ((HAF.out.ownl HO.out).keep fun g e cur hg hb => hb.set5_other _ _ _ _ _ (by simp at hg; omega)).mono (by simp <;> omega)
            · rw [HPK.out]
              exact ((HAF.out.ownp HP.out).keep fun g e cur hg hb => hb.set5_other _ _ _ _ _ (by simp at hg; omega)).mono (by simp <;> omega)
            · exact HWR.out.set5_other _ _ _ _ _ (by omega)
        · have he' : (r.err == 0) = false := by simpa using he
          have hP : playK ms (k + 1) = s := by rw [HS.out, if_neg he]
          have HPK := Lib.hid hP; clear hP he
          go_wp2_with fail
          go_roundg (N - (k + 1))
          case measure => rw [HGK.out]; omega
          case rel =>
            refine ⟨k + 1, by go_num, by omega, rfl, ⟨?_, ⟨bl, cl, bp, cp, ?_, ?_, ?_⟩, ?_⟩⟩
            · exact HAF.out.below HBEL.out HBB.out hr5 hr6
            · rw [HPK.out]; exact HW3.out
            · rw [HPK.out]; exact HAF.out.ownl' HBB.out hr5 hr6 HOL.out
            · rw [HPK.out]; exact HAF.out.ownp' HBB.out hr5 hr6 HOP.out
            · exact HWR.out
      · have hAf : After w1 wr.drew.heap.size (w1.heap.size + 1) (w1.heap.size) #[.int .i64 r.stk.qty, .int .i64 r.stk.val, .int .i64 r.stk.price, .slice bl1 r.stk.lays.length cl1, .slice bp1 r.stk.psts.length cp1] #[.int .i64 r.cst.seq, .int .i64 r.cst.qty, .int .i64 r.cst.val, .int .i64 r.cst.var] ((w1.alloc (.cells #[.int .i64 r.cst.seq, .int .i64 r.cst.qty, .int .i64 r.cst.val, .int .i64 r.cst.var] 34)).alloc (.cells #[.int .i64 r.stk.qty, .int .i64 r.stk.val, .int .i64 r.stk.price, .slice bl1 r.stk.lays.length cl1, .slice bp1 r.stk.psts.length cp1] 32)) := after2 _ _ _ _ _ _ _ _ _ _ _
        generalize ((w1.alloc (.cells #[.int .i64 r.cst.seq, .int .i64 r.cst.qty, .int .i64 r.cst.val, .int .i64 r.cst.var] 34)).alloc (.cells #[.int .i64 r.stk.qty, .int .i64 r.stk.val, .int .i64 r.stk.price, .slice bl1 r.stk.lays.length cl1, .slice bp1 r.stk.psts.length cp1] 32)) = W at *
        have hr5 : wr.heap.size ≤ w1.heap.size + 1 := by omega
        have hr6 : wr.heap.size ≤ w1.heap.size := by omega
        have hW3 := hAf.old HBB.out hr5 hr6 HB.out
        have hWr := hAf.old HBB.out hr5 hr6 HRES.out
        have fW := fun o => hW3.frozen o
        have g0 : W.cell? ⟨w.heap.size + 1, 0, none⟩ = some (.int .i64 s.qty) := by rw [hW3.cell]; rfl
        have g1 : W.cell? ⟨w.heap.size + 1, 1, none⟩ = some (.int .i64 s.val) := by rw [hW3.cell]; rfl
        have g2 : W.cell? ⟨w.heap.size + 1, 2, none⟩ = some (.int .i64 s.price) := by rw [hW3.cell]; rfl
        have g3 : W.cell? ⟨w.heap.size + 1, 3, none⟩ = some (.slice bl s.lays.length cl) := by rw [hW3.cell]; rfl
        have g4 : W.cell? ⟨w.heap.size + 1, 4, none⟩ = some (.slice bp s.psts.length cp) := by rw [hW3.cell]; rfl
        have k0 : W.cell? ⟨w1.heap.size + 1, 0, none⟩ = some (.int .i64 r.stk.qty) := by rw [hAf.t.cell]; rfl
        have k1 : W.cell? ⟨w1.heap.size + 1, 1, none⟩ = some (.int .i64 r.stk.val) := by rw [hAf.t.cell]; rfl
        have k2 : W.cell? ⟨w1.heap.size + 1, 2, none⟩ = some (.int .i64 r.stk.price) := by rw [hAf.t.cell]; rfl
        have k3 : W.cell? ⟨w1.heap.size + 1, 3, none⟩ = some (.slice bl1 r.stk.lays.length cl1) := by rw [hAf.t.cell]; rfl
        have k4 : W.cell? ⟨w1.heap.size + 1, 4, none⟩ = some (.slice bp1 r.stk.psts.length cp1) := by rw [hAf.t.cell]; rfl
        clear q0 q1 q2 q3 q4 q5 q6 q7 y0 y1 y2 y3 y4 fk c0 c1 c2 c3 c4 c5 c6 c7 b0 b1 b2 b3 b4
        have HAF := Lib.hid hAf; have HW3 := Lib.hid hW3; have HWR := Lib.hid hWr; clear hAf hW3 hWr
        by_cases he : r.err = 0
        · have he' : (r.err == 0) = true := by simpa using he
          have hP : playK ms (k + 1) = r.stk := by rw [HS.out, if_pos he]
          have HPK := Lib.hid hP; clear hP he
          go_wp2_with fail
          go_roundg (N - (k + 1))
          case measure => rw [HGK.out]; omega
          case rel =>
            have hC := set5_chg W (w.heap.size + 1) (.int .i64 r.stk.qty) (.int .i64 r.stk.val) (.int .i64 r.stk.price) (.slice bl1 r.stk.lays.length cl1) (.slice bp1 r.stk.psts.length cp1)
            refine ⟨k + 1, by go_num, by omega, rfl, ⟨?_, ⟨bl1, cl1, bp1, cp1, ?_, ?_, ?_⟩, ?_⟩⟩
            · exact (HAF.out.below HBEL.out HBB.out hr5 hr6).trans (hC.below (HAF.out.below HBEL.out HBB.out hr5 hr6).size (by simp))
            · rw [HPK.out]; exact set5_blk HW3.out _ _ _ _ _
            · rw [HPK.out]
              exact ((HAF.out.ownl HO.out).keep fun g e cur hg hb => hb.set5_other _ _ _ _ _ (by simp at hg; omega)).mono (by simp <;> omega)
            · rw [HPK.out]
              exact ((HAF.out.ownp HP.out).keep fun g e cur hg hb => hb.set5_other _ _ _ _ _ (by simp at hg; omega)).mono (by simp <;> omega)
            · exact HWR.out.set5_other _ _ _ _ _ (by omega)
        · have he' : (r.err == 0) = false := by simpa using he
          have hP : playK ms (k + 1) = s := by rw [HS.out, if_neg he]
          have HPK := Lib.hid hP; clear hP he
          go_wp2_with fail
          go_roundg (N - (k + 1))
          case measure => rw [HGK.out]; omega
          case rel =>
            refine ⟨k + 1, by go_num, by omega, rfl, ⟨?_, ⟨bl, cl, bp, cp, ?_, ?_, ?_⟩, ?_⟩⟩
            · exact HAF.out.below HBEL.out HBB.out hr5 hr6
            · rw [HPK.out]; exact HW3.out
            · rw [HPK.out]; exact HAF.out.ownl' HBB.out hr5 hr6 HOL.out
            · rw [HPK.out]; exact HAF.out.ownp' HBB.out hr5 hr6 HOP.out
            · exact HWR.out
      · have hAf : After w1 (wr.drew.alloc (.cells stkZ 32)).heap.size (wr.heap.size) (w1.heap.size) #[.int .i64 r.stk.qty, .int .i64 r.stk.val, .int .i64 r.stk.price, .slice bl1 r.stk.lays.length cl1, .slice bp1 r.stk.psts.length cp1] #[.int .i64 r.cst.seq, .int .i64 r.cst.qty, .int .i64 r.cst.val, .int .i64 r.cst.var] ((set5 w1 wr.heap.size (.int .i64 r.stk.qty) (.int .i64 r.stk.val) (.int .i64 r.stk.price) (.slice bl1 r.stk.lays.length cl1) (.slice bp1 r.stk.psts.length cp1)).alloc (.cells #[.int .i64 r.cst.seq, .int .i64 r.cst.qty, .int .i64 r.cst.val, .int .i64 r.cst.var] 34)) := after3 _ _ _ _ _ _ _ _ _ _ _ _ HZ.out (by simp <;> omega)
        generalize ((set5 w1 wr.heap.size (.int .i64 r.stk.qty) (.int .i64 r.stk.val) (.int .i64 r.stk.price) (.slice bl1 r.stk.lays.length cl1) (.slice bp1 r.stk.psts.length cp1)).alloc (.cells #[.int .i64 r.cst.seq, .int .i64 r.cst.qty, .int .i64 r.cst.val, .int .i64 r.cst.var] 34)) = W at *
        have hr5 : wr.heap.size ≤ wr.heap.size := by omega
        have hr6 : wr.heap.size ≤ w1.heap.size := by omega
        have hW3 := hAf.old HBB.out hr5 hr6 HB.out
        have hWr := hAf.old HBB.out hr5 hr6 HRES.out
        have fW := fun o => hW3.frozen o
        have g0 : W.cell? ⟨w.heap.size + 1, 0, none⟩ = some (.int .i64 s.qty) := by rw [hW3.cell]; rfl
        have g1 : W.cell? ⟨w.heap.size + 1, 1, none⟩ = some (.int .i64 s.val) := by rw [hW3.cell]; rfl
        have g2 : W.cell? ⟨w.heap.size + 1, 2, none⟩ = some (.int .i64 s.price) := by rw [hW3.cell]; rfl
        have g3 : W.cell? ⟨w.heap.size + 1, 3, none⟩ = some (.slice bl s.lays.length cl) := by rw [hW3.cell]; rfl
        have g4 : W.cell? ⟨w.heap.size + 1, 4, none⟩ = some (.slice bp s.psts.length cp) := by rw [hW3.cell]; rfl
        have k0 : W.cell? ⟨wr.heap.size, 0, none⟩ = some (.int .i64 r.stk.qty) := by rw [hAf.t.cell]; rfl
        have k1 : W.cell? ⟨wr.heap.size, 1, none⟩ = some (.int .i64 r.stk.val) := by rw [hAf.t.cell]; rfl
        have k2 : W.cell? ⟨wr.heap.size, 2, none⟩ = some (.int .i64 r.stk.price) := by rw [hAf.t.cell]; rfl
        have k3 : W.cell? ⟨wr.heap.size, 3, none⟩ = some (.slice bl1 r.stk.lays.length cl1) := by rw [hAf.t.cell]; rfl
        have k4 : W.cell? ⟨wr.heap.size, 4, none⟩ = some (.slice bp1 r.stk.psts.length cp1) := by rw [hAf.t.cell]; rfl
        clear q0 q1 q2 q3 q4 q5 q6 q7 y0 y1 y2 y3 y4 fk c0 c1 c2 c3 c4 c5 c6 c7 b0 b1 b2 b3 b4 z0 z1 z2 z3 z4 gz HZ
        have HAF := Lib.hid hAf; have HW3 := Lib.hid hW3; have HWR := Lib.hid hWr; clear hAf hW3 hWr
        by_cases he : r.err = 0
        · have he' : (r.err == 0) = true := by simpa using he
          have hP : playK ms (k + 1) = r.stk := by rw [HS.out, if_pos he]
          have HPK := Lib.hid hP; clear hP he
          go_wp2_with fail
          go_roundg (N - (k + 1))
          case measure => rw [HGK.out]; omega
          case rel =>
            have hC := set5_chg W (w.heap.size + 1) (.int .i64 r.stk.qty) (.int .i64 r.stk.val) (.int .i64 r.stk.price) (.slice bl1 r.stk.lays.length cl1) (.slice bp1 r.stk.psts.length cp1)
            refine ⟨k + 1, by go_num, by omega, rfl, ⟨?_, ⟨bl1, cl1, bp1, cp1, ?_, ?_, ?_⟩, ?_⟩⟩
            · exact (HAF.out.below HBEL.out HBB.out hr5 hr6).trans (hC.below (HAF.out.below HBEL.out HBB.out hr5 hr6).size (by simp))
            · rw [HPK.out]; exact set5_blk HW3.out _ _ _ _ _
            · rw [HPK.out]
              exact ((HAF.out.ownl HO.out).keep fun g e cur hg hb => hb.set5_other _ _ _ _ _ (by simp at hg; omega)).mono (by simp <;> omega)
            · rw [HPK.out]
              exact ((HAF.out.ownp HP.out).keep fun g e cur hg hb => hb.set5_other _ _ _ _ _ (by simp at hg; omega)).mono (by simp <;> omega)
            · exact HWR.out.set5_other _ _ _ _ _ (by omega)
        · have he' : (r.err == 0) = false := by simpa using he
          have hP : playK ms (k + 1) = s := by rw [HS.out, if_neg he]
          have HPK := Lib.hid hP; clear hP he
          go_wp2_with fail
          go_roundg (N - (k + 1))
          case measure => rw [HGK.out]; omega
          case rel =>
            refine ⟨k + 1, by go_num, by omega, rfl, ⟨?_, ⟨bl, cl, bp, cp, ?_, ?_, ?_⟩, ?_⟩⟩
            · exact HAF.out.below HBEL.out HBB.out hr5 hr6
            · rw [HPK.out]; exact HW3.out
            · rw [HPK.out]; exact HAF.out.ownl' HBB.out hr5 hr6 HOL.out
            · rw [HPK.out]; exact HAF.out.ownp' HBB.out hr5 hr6 HOP.out
            · exact HWR.out
      · have hAf : After w1 ((wr.drew.alloc (.cells stkZ 32)).alloc (.cells cstZ 34)).heap.size (wr.heap.size) (wr.heap.size + 1) #[.int .i64 r.stk.qty, .int .i64 r.stk.val, .int .i64 r.stk.price, .slice bl1 r.stk.lays.length cl1, .slice bp1 r.stk.psts.length cp1] #[.int .i64 r.cst.seq, .int .i64 r.cst.qty, .int .i64 r.cst.val, .int .i64 r.cst.var] (((((set5 w1 wr.heap.size (.int .i64 r.stk.qty) (.int .i64 r.stk.val) (.int .i64 r.stk.price) (.slice bl1 r.stk.lays.length cl1) (.slice bp1 r.stk.psts.length cp1)).setCell ⟨wr.heap.size + 1, 0, none⟩ (.int .i64 r.cst.seq)).setCell ⟨wr.heap.size + 1, 1, none⟩ (.int .i64 r.cst.qty)).setCell ⟨wr.heap.size + 1, 2, none⟩ (.int .i64 r.cst.val)).setCell ⟨wr.heap.size + 1, 3, none⟩ (.int .i64 r.cst.var)) := after4 _ _ _ _ _ _ _ _ _ _ _ _ HZ.out HV.out (by omega) (by simp <;> omega) (by simp <;> omega)
        generalize (((((set5 w1 wr.heap.size (.int .i64 r.stk.qty) (.int .i64 r.stk.val) (.int .i64 r.stk.price) (.slice bl1 r.stk.lays.length cl1) (.slice bp1 r.stk.psts.length cp1)).setCell ⟨wr.heap.size + 1, 0, none⟩ (.int .i64 r.cst.seq)).setCell ⟨wr.heap.size + 1, 1, none⟩ (.int .i64 r.cst.qty)).setCell ⟨wr.heap.size + 1, 2, none⟩ (.int .i64 r.cst.val)).setCell ⟨wr.heap.size + 1, 3, none⟩ (.int .i64 r.cst.var)) = W at *
        have hr5 : wr.heap.size ≤ wr.heap.size := by omega
        have hr6 : wr.heap.size ≤ wr.heap.size + 1 := by omega
        have hW3 := hAf.old HBB.out hr5 hr6 HB.out
        have hWr := hAf.old HBB.out hr5 hr6 HRES.out
        have fW := fun o => hW3.frozen o
        have g0 : W.cell? ⟨w.heap.size + 1, 0, none⟩ = some (.int .i64 s.qty) := by rw [hW3.cell]; rfl
        have g1 : W.cell? ⟨w.heap.size + 1, 1, none⟩ = some (.int .i64 s.val) := by rw [hW3.cell]; rfl
        have g2 : W.cell? ⟨w.heap.size + 1, 2, none⟩ = some (.int .i64 s.price) := by rw [hW3.cell]; rfl
        have g3 : W.cell? ⟨w.heap.size + 1, 3, none⟩ = some (.slice bl s.lays.length cl) := by rw [hW3.cell]; rfl
        have g4 : W.cell? ⟨w.heap.size + 1, 4, none⟩ = some (.slice bp s.psts.length cp) := by rw [hW3.cell]; rfl
        have k0 : W.cell? ⟨wr.heap.size, 0, none⟩ = some (.int .i64 r.stk.qty) := by rw [hAf.t.cell]; rfl
        have k1 : W.cell? ⟨wr.heap.size, 1, none⟩ = some (.int .i64 r.stk.val) := by rw [hAf.t.cell]; rfl
        have k2 : W.cell? ⟨wr.heap.size, 2, none⟩ = some (.int .i64 r.stk.price) := by rw [hAf.t.cell]; rfl
        have k3 : W.cell? ⟨wr.heap.size, 3, none⟩ = some (.slice bl1 r.stk.lays.length cl1) := by rw [hAf.t.cell]; rfl
        have k4 : W.cell? ⟨wr.heap.size, 4, none⟩ = some (.slice bp1 r.stk.psts.length cp1) := by rw [hAf.t.cell]; rfl
        clear q0 q1 q2 q3 q4 q5 q6 q7 y0 y1 y2 y3 y4 fk c0 c1 c2 c3 c4 c5 c6 c7 b0 b1 b2 b3 b4 z0 z1 z2 z3 z4 gz HZ v0 v1 v2 v3 gv HV
        have HAF := Lib.hid hAf; have HW3 := Lib.hid hW3; have HWR := Lib.hid hWr; clear hAf hW3 hWr
        by_cases he : r.err = 0
        · have he' : (r.err == 0) = true := by simpa using he
          have hP : playK ms (k + 1) = r.stk := by rw [HS.out, if_pos he]
          have HPK := Lib.hid hP; clear hP he
          go_wp2_with fail
          go_roundg (N - (k + 1))
          case measure => rw [HGK.out]; omega
          case rel =>
            have hC := set5_chg W (w.heap.size + 1) (.int .i64 r.stk.qty) (.int .i64 r.stk.val) (.int .i64 r.stk.price) (.slice bl1 r.stk.lays.length cl1) (.slice bp1 r.stk.psts.length cp1)
            refine ⟨k + 1, by go_num, by omega, rfl, ⟨?_, ⟨bl1, cl1, bp1, cp1, ?_, ?_, ?_⟩, ?_⟩⟩
            · exact (HAF.out.below HBEL.out HBB.out hr5 hr6).trans (hC.below (HAF.out.below HBEL.out HBB.out hr5 hr6).size (by simp))
            · rw [HPK.out]; exact set5_blk HW3.out _ _ _ _ _
            · rw [HPK.out]
              exact ((HAF.out.ownl HO.out).keep fun g e cur hg hb => hb.set5_other _ _ _ _ _ (by simp at hg; omega)).mono (by simp <;> omega)
            · rw [HPK.out]
              exact ((HAF.out.ownp HP.out).keep fun g e cur hg hb => hb.set5_other _ _ _ _ _ (by simp at hg; omega)).mono (by simp <;> omega)
            · exact HWR.out.set5_other _ _ _ _ _ (by omega)
        · have he' : (r.err == 0) = false := by simpa using he
          have hP : playK ms (k + 1) = s := by rw [HS.out, if_neg he]
          have HPK := Lib.hid hP; clear hP he
          go_wp2_with fail
          go_roundg (N - (k + 1))
          case measure => rw [HGK.out]; omega
          case rel =>
            refine ⟨k + 1, by go_num, by omega, rfl, ⟨?_, ⟨bl, cl, bp, cp, ?_, ?_, ?_⟩, ?_⟩⟩
            · exact HAF.out.below HBEL.out HBB.out hr5 hr6
            · rw [HPK.out]; exact HW3.out
            · rw [HPK.out]; exact HAF.out.ownl' HBB.out hr5 hr6 HOL.out
            · rw [HPK.out]; exact HAF.out.ownp' HBB.out hr5 hr6 HOP.out
            · exact HWR.out
      · have hAf : After w1 (wr.drew.alloc (.cells cstZ 34)).heap.size (w1.heap.size) (wr.heap.size) #[.int .i64 r.stk.qty, .int .i64 r.stk.val, .int .i64 r.stk.price, .slice bl1 r.stk.lays.length cl1, .slice bp1 r.stk.psts.length cp1] #[.int .i64 r.cst.seq, .int .i64 r.cst.qty, .int .i64 r.cst.val, .int .i64 r.cst.var] ((set4 w1 wr.heap.size (.int .i64 r.cst.seq) (.int .i64 r.cst.qty) (.int .i64 r.cst.val) (.int .i64 r.cst.var)).alloc (.cells #[.int .i64 r.stk.qty, .int .i64 r.stk.val, .int .i64 r.stk.price, .slice bl1 r.stk.lays.length cl1, .slice bp1 r.stk.psts.length cp1] 32)) := after5 _ _ _ _ _ _ _ _ _ _ _ _ HV.out (by simp <;> omega)
        generalize ((set4 w1 wr.heap.size (.int .i64 r.cst.seq) (.int .i64 r.cst.qty) (.int .i64 r.cst.val) (.int .i64 r.cst.var)).alloc (.cells #[.int .i64 r.stk.qty, .int .i64 r.stk.val, .int .i64 r.stk.price, .slice bl1 r.stk.lays.length cl1, .slice bp1 r.stk.psts.length cp1] 32)) = W at *
        have hr5 : wr.heap.size ≤ w1.heap.size := by omega
        have hr6 : wr.heap.size ≤ wr.heap.size := by omega
        have hW3 := hAf.old HBB.out hr5 hr6 HB.out
        have hWr := hAf.old HBB.out hr5 hr6 HRES.out
        have fW := fun o => hW3.frozen o
        have g0 : W.cell? ⟨w.heap.size + 1, 0, none⟩ = some (.int .i64 s.qty) := by rw [hW3.cell]; rfl
        have g1 : W.cell? ⟨w.heap.size + 1, 1, none⟩ = some (.int .i64 s.val) := by rw [hW3.cell]; rfl
        have g2 : W.cell? ⟨w.heap.size + 1, 2, none⟩ = some (.int .i64 s.price) := by rw [hW3.cell]; rfl
        have g3 : W.cell? ⟨w.heap.size + 1, 3, none⟩ = some (.slice bl s.lays.length cl) := by rw [hW3.cell]; rfl
        have g4 : W.cell? ⟨w.heap.size + 1, 4, none⟩ = some (.slice bp s.psts.length cp) := by rw [hW3.cell]; rfl
        have k0 : W.cell? ⟨w1.heap.size, 0, none⟩ = some (.int .i64 r.stk.qty) := by rw [hAf.t.cell]; rfl
        have k1 : W.cell? ⟨w1.heap.size, 1, none⟩ = some (.int .i64 r.stk.val) := by rw [hAf.t.cell]; rfl
        have k2 : W.cell? ⟨w1.heap.size, 2, none⟩ = some (.int .i64 r.stk.price) := by rw [hAf.t.cell]; rfl
        have k3 : W.cell? ⟨w1.heap.size, 3, none⟩ = some (.slice bl1 r.stk.lays.length cl1) := by rw [hAf.t.cell]; rfl
        have k4 : W.cell? ⟨w1.heap.size, 4, none⟩ = some (.slice bp1 r.stk.psts.length cp1) := by rw [hAf.t.cell]; rfl
        clear q0 q1 q2 q3 q4 q5 q6 q7 y0 y1 y2 y3 y4 fk c0 c1 c2 c3 c4 c5 c6 c7 b0 b1 b2 b3 b4 v0 v1 v2 v3 gv HV
        have HAF := Lib.hid hAf; have HW3 := Lib.hid hW3; have HWR := Lib.hid hWr; clear hAf hW3 hWr
        by_cases he : r.err = 0
        · have he' : (r.err == 0) = true := by simpa using he
          have hP : playK ms (k + 1) = r.stk := by rw [HS.out, if_pos he]
          have HPK := Lib.hid hP; clear hP he
          go_wp2_with fail
          go_roundg (N - (k + 1))
          case measure => rw [HGK.out]; omega
          case rel =>
            have hC := set5_chg W (w.heap.size + 1) (.int .i64 r.stk.qty) (.int .i64 r.stk.val) (.int .i64 r.stk.price) (.slice bl1 r.stk.lays.length cl1) (.slice bp1 r.stk.psts.length cp1)
            refine ⟨k + 1, by go_num, by omega, rfl, ⟨?_, ⟨bl1, cl1, bp1, cp1, ?_, ?_, ?_⟩, ?_⟩⟩
            · exact (HAF.out.below HBEL.out HBB.out hr5 hr6).trans (hC.below (HAF.out.below HBEL.out HBB.out hr5 hr6).size (by simp))
            · rw [HPK.out]; exact set5_blk HW3.out _ _ _ _ _
            · rw [HPK.out]
              exact ((HAF.out.ownl HO.out).keep fun g e cur hg hb => hb.set5_other _ _ _ _ _ (by simp at hg; omega)).mono (by simp <;> omega)
            · rw [HPK.out]
              exact ((HAF.out.ownp HP.out).keep fun g e cur hg hb => hb.set5_other _ _ _ _ _ (by simp at hg; omega)).mono (by simp <;> omega)
            · exact HWR.out.set5_other _ _ _ _ _ (by omega)
        · have he' : (r.err == 0) = false := by simpa using he
          have hP : playK ms (k + 1) = s := by rw [HS.out, if_neg he]
          have HPK := Lib.hid hP; clear hP he
          go_wp2_with fail
          go_roundg (N - (k + 1))
          case measure => rw [HGK.out]; omega
          case rel =>
            refine ⟨k + 1, by go_num, by omega, rfl, ⟨?_, ⟨bl, cl, bp, cp, ?_, ?_, ?_⟩, ?_⟩⟩
            · exact HAF.out.below HBEL.out HBB.out hr5 hr6
            · rw [HPK.out]; exact HW3.out
            · rw [HPK.out]; exact HAF.out.ownl' HBB.out hr5 hr6 HOL.out
            · rw [HPK.out]; exact HAF.out.ownp' HBB.out hr5 hr6 HOP.out
            · exact HWR.out
      · have hAf : After w1 ((wr.drew.alloc (.cells cstZ 34)).alloc (.cells stkZ 32)).heap.size (wr.heap.size + 1) (wr.heap.size) #[.int .i64 r.stk.qty, .int .i64 r.stk.val, .int .i64 r.stk.price, .slice bl1 r.stk.lays.length cl1, .slice bp1 r.stk.psts.length cp1] #[.int .i64 r.cst.seq, .int .i64 r.cst.qty, .int .i64 r.cst.val, .int .i64 r.cst.var] (((((set5 w1 (wr.heap.size + 1) (.int .i64 r.stk.qty) (.int .i64 r.stk.val) (.int .i64 r.stk.price) (.slice bl1 r.stk.lays.length cl1) (.slice bp1 r.stk.psts.length cp1)).setCell ⟨wr.heap.size, 0, none⟩ (.int .i64 r.cst.seq)).setCell ⟨wr.heap.size, 1, none⟩ (.int .i64 r.cst.qty)).setCell ⟨wr.heap.size, 2, none⟩ (.int .i64 r.cst.val)).setCell ⟨wr.heap.size, 3, none⟩ (.int .i64 r.cst.var)) := after4 _ _ _ _ _ _ _ _ _ _ _ _ HZ.out HV.out (by omega) (by simp <;> omega) (by simp <;> omega)
        generalize (((((set5 w1 (wr.heap.size + 1) (.int .i64 r.stk.qty) (.int .i64 r.stk.val) (.int .i64 r.stk.price) (.slice bl1 r.stk.lays.length cl1) (.slice bp1 r.stk.psts.length cp1)).setCell ⟨wr.heap.size, 0, none⟩ (.int .i64 r.cst.seq)).setCell ⟨wr.heap.size, 1, none⟩ (.int .i64 r.cst.qty)).setCell ⟨wr.heap.size, 2, none⟩ (.int .i64 r.cst.val)).setCell ⟨wr.heap.size, 3, none⟩ (.int .i64 r.cst.var)) = W at *
        have hr5 : wr.heap.size ≤ wr.heap.size + 1 := by omega
        have hr6 : wr.heap.size ≤ wr.heap.size := by omega
        have hW3 := hAf.old HBB.out hr5 hr6 HB.out
        have hWr := hAf.old HBB.out hr5 hr6 HRES.out
        have fW := fun o => hW3.frozen o
        have g0 : W.cell? ⟨w.heap.size + 1, 0, none⟩ = some (.int .i64 s.qty) := by rw [hW3.cell]; rfl
        have g1 : W.cell? ⟨w.heap.size + 1, 1, none⟩ = some (.int .i64 s.val) := by rw [hW3.cell]; rfl
        have g2 : W.cell? ⟨w.heap.size + 1, 2, none⟩ = some (.int .i64 s.price) := by rw [hW3.cell]; rfl
        have g3 : W.cell? ⟨w.heap.size + 1, 3, none⟩ = some (.slice bl s.lays.length cl) := by rw [hW3.cell]; rfl
        have g4 : W.cell? ⟨w.heap.size + 1, 4, none⟩ = some (.slice bp s.psts.length cp) := by rw [hW3.cell]; rfl
        have k0 : W.cell? ⟨wr.heap.size + 1, 0, none⟩ = some (.int .i64 r.stk.qty) := by rw [hAf.t.cell]; rfl
        have k1 : W.cell? ⟨wr.heap.size + 1, 1, none⟩ = some (.int .i64 r.stk.val) := by rw [hAf.t.cell]; rfl
        have k2 : W.cell? ⟨wr.heap.size + 1, 2, none⟩ = some (.int .i64 r.stk.price) := by rw [hAf.t.cell]; rfl
        have k3 : W.cell? ⟨wr.heap.size + 1, 3, none⟩ = some (.slice bl1 r.stk.lays.length cl1) := by rw [hAf.t.cell]; rfl
        have k4 : W.cell? ⟨wr.heap.size + 1, 4, none⟩ = some (.slice bp1 r.stk.psts.length cp1) := by rw [hAf.t.cell]; rfl
        clear q0 q1 q2 q3 q4 q5 q6 q7 y0 y1 y2 y3 y4 fk c0 c1 c2 c3 c4 c5 c6 c7 b0 b1 b2 b3 b4 z0 z1 z2 z3 z4 gz HZ v0 v1 v2 v3 gv HV
        have HAF := Lib.hid hAf; have HW3 := Lib.hid hW3; have HWR := Lib.hid hWr; clear hAf hW3 hWr
        by_cases he : r.err = 0
        · have he' : (r.err == 0) = true := by simpa using he
          have hP : playK ms (k + 1) = r.stk := by rw [HS.out, if_pos he]
          have HPK := Lib.hid hP; clear hP he
          go_wp2_with fail
          go_roundg (N - (k + 1))
          case measure => rw [HGK.out]; omega
          case rel =>
            have hC := set5_chg W (w.heap.size + 1) (.int .i64 r.stk.qty) (.int .i64 r.stk.val) (.int .i64 r.stk.price) (.slice bl1 r.stk.lays.length cl1) (.slice bp1 r.stk.psts.length cp1)
            refine ⟨k + 1, by go_num, by omega, rfl, ⟨?_, ⟨bl1, cl1, bp1, cp1, ?_, ?_, ?_⟩, ?_⟩⟩
            · exact (HAF.out.below HBEL.out HBB.out hr5 hr6).trans (hC.below (HAF.out.below HBEL.out HBB.out hr5 hr6).size (by simp))
            · rw [HPK.out]; exact set5_blk HW3.out _ _ _ _ _
            · rw [HPK.out]
              exact ((HAF.out.ownl HO.out).keep fun g e cur hg hb => hb.set5_other _ _ _ _ _ (by simp at hg; omega)).mono (by simp <;> omega)
            · rw [HPK.out]
              exact ((HAF.out.ownp HP.out).keep fun g e cur hg hb => hb.set5_other _ _ _ _ _ (by simp at hg; omega)).mono (by simp <;> omega)
            · exact HWR.out.set5_other _ _ _ _ _ (by omega)
        · have he' : (r.err == 0) = false := by simpa using he
          have hP : playK ms (k + 1) = s := by rw [HS.out, if_neg he]
          have HPK := Lib.hid hP; clear hP he
          go_wp2_with fail
          go_roundg (N - (k + 1))
          case measure => rw [HGK.out]; omega
          case rel =>
            refine ⟨k + 1, by go_num, by omega, rfl, ⟨?_, ⟨bl, cl, bp, cp, ?_, ?_, ?_⟩, ?_⟩⟩
            · exact HAF.out.below HBEL.out HBB.out hr5 hr6
            · rw [HPK.out]; exact HW3.out
            · rw [HPK.out]; exact HAF.out.ownl' HBB.out hr5 hr6 HOL.out
            · rw [HPK.out]; exact HAF.out.ownp' HBB.out hr5 hr6 HOP.out
            · exact HWR.out
    · have hkN' : k = N := by omega
      subst hkN'
      generalize playK ms k = s at *
      have b0 : wr.cell? ⟨w.heap.size + 1, 0, none⟩ = some (.int .i64 s.qty) := by rw [hB.cell]; rfl
      have b1 : wr.cell? ⟨w.heap.size + 1, 1, none⟩ = some (.int .i64 s.val) := by rw [hB.cell]; rfl
      have b2 : wr.cell? ⟨w.heap.size + 1, 2, none⟩ = some (.int .i64 s.price) := by rw [hB.cell]; rfl
      have b3 : wr.cell? ⟨w.heap.size + 1, 3, none⟩ = some (.slice bl s.lays.length cl) := by rw [hB.cell]; rfl
      have b4 : wr.cell? ⟨w.heap.size + 1, 4, none⟩ = some (.slice bp s.psts.length cp) := by rw [hB.cell]; rfl
      have r0 : wr.cell? ⟨w.heap.size, 0, none⟩ = some (.int .i64 0) := by rw [hres.cell]; rfl
      have r1 : wr.cell? ⟨w.heap.size, 1, none⟩ = some (.int .i64 0) := by rw [hres.cell]; rfl
      have r2 : wr.cell? ⟨w.heap.size, 2, none⟩ = some (.int .i64 0) := by rw [hres.cell]; rfl
      have r3 : wr.cell? ⟨w.heap.size, 3, none⟩ = some (.slice none 0 0) := by rw [hres.cell]; rfl
      have r4 : wr.cell? ⟨w.heap.size, 4, none⟩ = some (.slice none 0 0) := by rw [hres.cell]; rfl
      have fr := fun o => hres.frozen o
      have hlB := hB.lt
      have HB := Lib.hid hB; have HOL := Lib.hid hol; have HOP := Lib.hid hop; have HRES := Lib.hid hres; have HBEL := Lib.hid hbel; have HG := Lib.hid hgood
      clear hB hol hop hres hbel hgood hgk
      by_cases h1 : k < ms.length
      · have t1 : decide ((k : Int) < (ms.length : Int)) = true := by simp; omega
        have t2 : decide ((k : Int) < 60) = false := by have := HN.out; simp; omega
        go_wp2_with fail
        refine bodyPost_ret (v := .agg #[.int .i64 s.qty, .int .i64 s.val, .int .i64 s.price, .slice bl s.lays.length cl, .slice bp s.psts.length cp]) (by simp [results, Tryd.results18, go_sem, *]) rfl ⟨bl, cl, bp, cp, rfl, ?_, ?_, ?_⟩
        · exact HBEL.out.trans ((set5_chg wr w.heap.size _ _ _ _ _).below HBEL.out.size (by simp))
        · exact (HOL.out.keep fun g e cur hg hb => hb.set5_other _ _ _ _ _ (by omega)).mono (by omega)
        · exact (HOP.out.keep fun g e cur hg hb => hb.set5_other _ _ _ _ _ (by omega)).mono (by omega)
      · have t1 : decide ((k : Int) < (ms.length : Int)) = false := by simp; omega
        go_wp2_with fail
        refine bodyPost_ret (v := .agg #[.int .i64 s.qty, .int .i64 s.val, .int .i64 s.price, .slice bl s.lays.length cl, .slice bp s.psts.length cp]) (by simp [results, Tryd.results18, go_sem, *]) rfl ⟨bl, cl, bp, cp, rfl, ?_, ?_, ?_⟩
        · exact HBEL.out.trans ((set5_chg wr w.heap.size _ _ _ _ _).below HBEL.out.size (by simp))
        · exact (HOL.out.keep fun g e cur hg hb => hb.set5_other _ _ _ _ _ (by omega)).mono (by omega)
        · exact (HOP.out.keep fun g e cur hg hb => hb.set5_other _ _ _ _ _ (by omega)).mono (by omega)
end Go.Proofs.YtboiipkbhbbgfaaDoor
