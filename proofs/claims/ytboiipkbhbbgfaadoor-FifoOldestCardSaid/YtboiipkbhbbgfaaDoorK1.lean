/- FifoOldest returns true for every list of movements and every quantity. Condition: the table of the months' lengths stands as the program's text lays it. -/
import Derived.Test.YtboiipkbhbbgfaaDoorJ3
import Derived.Test.YtboiipkbhbbgfaaDoorJ8
namespace Go.Proofs.YtboiipkbhbbgfaaDoor
open Go.RowKit

/-- the worlds in which what was there is as it was -/
def Hold (wr w : World) : Prop := Below wr.heap.size wr w
theorem Hold.size {wr w : World} (h : Hold wr w) : wr.heap.size ≤ w.heap.size := Below.size h
theorem Hold.drew {wr w : World} (h : Hold wr w) : Hold wr w.drew := Below.drew h
theorem Hold.alloc {wr w : World} (h : Hold wr w) (o : Obj) : Hold wr (w.alloc o) := Below.alloc h (Below.size h) o
theorem Hold.setCell {wr w : World} (h : Hold wr w) {p : Addr} (hp : wr.heap.size ≤ p.block) (v : Value) : Hold wr (w.setCell p v) := Below.setCell h hp v
theorem Hold.bel {wr w w' : World} (h : Hold wr w) (hb : Below w.heap.size w w') : Hold wr w' := Below.trans h (hb.mono (Below.size h))
theorem Hold.bel2 {wr w2 X w3 : World} (h : Hold wr w2) (hX : Below w2.heap.size w2 X) (hb : Below wr.heap.size X w3) : Hold wr w3 := Below.trans (Below.trans h (hX.mono (Below.size h))) hb
theorem z32 {w : World} {g : Nat} (h : Blk w g 32 stkZ) : w.cell? ⟨g, 0, none⟩ = some (.int .i64 0) ∧ w.cell? ⟨g, 1, none⟩ = some (.int .i64 0) ∧ w.cell? ⟨g, 2, none⟩ = some (.int .i64 0) ∧ w.cell? ⟨g, 3, none⟩ = some (.slice none 0 0) ∧ w.cell? ⟨g, 4, none⟩ = some (.slice none 0 0) ∧ (∀ o, w.frozen? ⟨g, o, none⟩ = false) ∧ g < w.heap.size ∧ w.heap.size ≠ g ∧ g ≠ w.heap.size :=
  ⟨by rw [h.cell]; rfl, by rw [h.cell]; rfl, by rw [h.cell]; rfl, by rw [h.cell]; rfl, by rw [h.cell]; rfl, fun o => h.frozen o, h.lt, Ne.symm (Nat.ne_of_lt h.lt), Nat.ne_of_lt h.lt⟩
theorem z34 {w : World} {g : Nat} (h : Blk w g 34 cstZ) : w.cell? ⟨g, 0, none⟩ = some (.int .i64 0) ∧ w.cell? ⟨g, 1, none⟩ = some (.int .i64 0) ∧ w.cell? ⟨g, 2, none⟩ = some (.int .i64 0) ∧ w.cell? ⟨g, 3, none⟩ = some (.int .i64 0) ∧ (∀ o, w.frozen? ⟨g, o, none⟩ = false) ∧ g < w.heap.size ∧ w.heap.size ≠ g ∧ g ≠ w.heap.size :=
  ⟨by rw [h.cell]; rfl, by rw [h.cell]; rfl, by rw [h.cell]; rfl, by rw [h.cell]; rfl, fun o => h.frozen o, h.lt, Ne.symm (Nat.ne_of_lt h.lt), Nat.ne_of_lt h.lt⟩

/-- what the comparison of the layers behind an issue rests on -/
structure Old (s : Stk) (q : Int) (G : Nat) (ls : List Lay) : Prop where
  len : s.lays.length = G + ls.length
  seq : ∀ j, j < ls.length → (s.lays.getD (G + j) zLay).seq = (ls.getD j zLay).seq ∧ (s.lays.getD (G + j) zLay).lot = (ls.getD j zLay).lot
  same : ∀ j, j < ls.length → 0 < j → s.lays.getD (G + j) zLay = ls.getD j zLay
  first : 0 < ls.length → (s.lays.getD G zLay).qty - (ls.getD 0 zLay).qty = q - sumQ (s.lays.take G)
theorem getD_app {α : Type} (z : α) : ∀ (a b : List α) (j : Nat), (a ++ b).getD (a.length + j) z = b.getD j z
  | [], b, j => by simp
  | x :: a, b, j => by
    have := getD_app z a b j
    simp only [List.cons_append, List.length_cons]
    rw [show a.length + 1 + j = (a.length + j) + 1 by omega, List.getD_cons_succ]
    exact this
theorem old_of {s : Stk} {q sum : Int} {pre rest ls : List Lay} (h : s.lays = pre ++ rest)
    (hc : (q = sumQ pre ∧ sum = sumV pre ∧ ls = rest) ∨ ∃ l r d p, rest = l :: r ∧ q = sumQ pre + d ∧ 0 < d ∧ d < l.qty ∧ 0 ≤ p ∧ p ≤ l.val ∧ sum = sumV pre + p ∧ ls = { l with qty := l.qty - d, val := l.val - p } :: r) : Old s q pre.length ls := by
  have ht : s.lays.take pre.length = pre := by rw [h]; simp
  rcases hc with ⟨h1, _, rfl⟩ | ⟨l, r, d, p, rfl, h1, _, _, _, _, _, rfl⟩
  · refine ⟨by rw [h]; simp, fun j hj => ?_, fun j hj _ => ?_, fun hj => ?_⟩
    · rw [h, getD_app]; exact ⟨rfl, rfl⟩
    · rw [h, getD_app]
    · have := getD_app zLay pre ls 0
      rw [Nat.add_zero] at this
      rw [ht, h, this]; omega
  · refine ⟨by rw [h]; simp, fun j hj => ?_, fun j hj h0 => ?_, fun hj => ?_⟩
    · rw [h, getD_app]
      cases j with
      | zero => exact ⟨rfl, rfl⟩
      | succ j => exact ⟨rfl, rfl⟩
    · rw [h, getD_app]
      cases j with
      | zero => omega
      | succ j => rfl
    · have := getD_app zLay pre (l :: r) 0
      rw [Nat.add_zero] at this
      rw [ht, h, this]
      simp
      omega

set_option maxRecDepth 100000 in
set_option maxHeartbeats 40000000 in
theorem oldest_walk (ms : List Mov) (v0 : Value) (q : Int) (w : World) (hm : Rd w 8 v0 ms.length (movsC ms)) (hmm : ms.length ≤ maxLen) (hok : ∀ m ∈ ms, MovOk m) (hq : -9223372036854775808 ≤ q ∧ q ≤ 9223372036854775807) (hlen : LengthsAt w) :
    Calls Tryd.prog 6 #[v0, .int .i64 q] w fun e w' => e = .returned (.bool true) ∧ Below w.heap.size w w' := by
  obtain ⟨bv, cv, rfl⟩ := hm.form
  obtain ⟨hn1, hn2, hgood⟩ := play_len ms (min ms.length 60) (Nat.min_le_left _ _)
  have hpl := play_any ms bv cv w hm hmm hok hlen
  have hn1' : (playK ms (min ms.length 60)).lays.length ≤ 60 := by omega
  have hn2' : (playK ms (min ms.length 60)).psts.length ≤ 60 := by omega
  generalize playK ms (min ms.length 60) = s at *
  have HLE := Lib.hid hlen; have HG := Lib.hid hgood; clear hm hok hlen hn1 hn2
  go_enter Tryd.func6, Tryd.ntmps6
  go_wp2_with fail
  refine hpl.mono ?_
  rintro e w1 ⟨bl0, cl0, bp0, cp0, rfl, hb1, hol1, hop1⟩
  clear hpl
  go_upto_region 2 with fail
  have hblk : Blk (w1.alloc (.cells #[.int .i64 s.qty, .int .i64 s.val, .int .i64 s.price, .slice bl0 s.lays.length cl0, .slice bp0 s.psts.length cp0] 32)) w1.heap.size 32 #[.int .i64 s.qty, .int .i64 s.val, .int .i64 s.price, .slice bl0 s.lays.length cl0, .slice bp0 s.psts.length cp0] := Blk.new _ _ _
  have hA : Below w1.heap.size w1 (w1.alloc (.cells #[.int .i64 s.qty, .int .i64 s.val, .int .i64 s.price, .slice bl0 s.lays.length cl0, .slice bp0 s.psts.length cp0] 32)) := (Below.refl _ _).alloc (Nat.le_refl _) _
  have HOL1 := Lib.hid (hol1.below' hA); have HOP1 := Lib.hid (hop1.below' hA)
  have HBW := Lib.hid (hb1.trans (hA.mono hb1.size)); clear hb1 hA hol1 hop1
  generalize w1.alloc (.cells #[.int .i64 s.qty, .int .i64 s.val, .int .i64 s.price, .slice bl0 s.lays.length cl0, .slice bp0 s.psts.length cp0] 32) = W1 at *
  generalize w1.heap.size = b5 at *
  have HK1 := Lib.hid hblk
  have lk := hblk.lt
  clear hblk
  have hI1 : I64 q := ⟨hq.1, hq.2⟩
  have hlaw := issue_law HG.out (q := q) (unused_spec HG.out.p).2.2
  have hun : ∀ X, Hold W1 X → Calls Tryd.prog 19 #[.agg #[.int .i64 s.qty, .int .i64 s.val, .int .i64 s.price, .slice bl0 s.lays.length cl0, .slice bp0 s.psts.length cp0]] X fun e w' => Hold W1 X ∧ e = .returned (.int .i64 (unusedM s.psts)) ∧ Below X.heap.size X w' := fun X h0 =>
    (unused_any _ _ _ _ _ _ _ _ s.psts X ((HOP1.out.below' h0).mono (Nat.zero_le _)) (by omega)).mono fun e w' hp => ⟨h0, hp⟩
  have hst : ∀ X, Hold W1 X → Calls Tryd.prog 14 #[.agg #[.int .i64 s.qty, .int .i64 s.val, .int .i64 s.price, .slice bl0 s.lays.length cl0, .slice bp0 s.psts.length cp0], (issueMov (unusedM s.psts) q).v] X (StepQ (stepM s (issueMov (unusedM s.psts) q)) X) := fun X h0 =>
    step_q s (issueMov (unusedM s.psts) q) _ _ _ _ X _ (HOL1.out.below' h0) (HOP1.out.below' h0) (by omega) (by omega) HG.out hI1 (i64_small 0 (by decide) (by decide)) (HLE.out.below (HBW.out.trans (Below.mono h0 HBW.out.size)))
  have HLAW := Lib.hid hlaw; clear hlaw
  have hll := step_lays_len s (issueMov (unusedM s.psts) q)
  generalize unusedM s.psts = n at *
  generalize stepM s (issueMov n q) = r at *
  have hcl := hun
  have hh0 : Hold W1 W1 := Below.refl _ _
  have q0 : ∀ w', Hold W1 w' → w'.cell? ⟨b5, 0, none⟩ = some (.int .i64 s.qty) := fun w' h => by rw [(HK1.out.below' h).cell]; rfl
  have q1 : ∀ w', Hold W1 w' → w'.cell? ⟨b5, 1, none⟩ = some (.int .i64 s.val) := fun w' h => by rw [(HK1.out.below' h).cell]; rfl
  have q2 : ∀ w', Hold W1 w' → w'.cell? ⟨b5, 2, none⟩ = some (.int .i64 s.price) := fun w' h => by rw [(HK1.out.below' h).cell]; rfl
  have q3 : ∀ w', Hold W1 w' → w'.cell? ⟨b5, 3, none⟩ = some (.slice bl0 s.lays.length cl0) := fun w' h => by rw [(HK1.out.below' h).cell]; rfl
  have q4 : ∀ w', Hold W1 w' → w'.cell? ⟨b5, 4, none⟩ = some (.slice bp0 s.psts.length cp0) := fun w' h => by rw [(HK1.out.below' h).cell]; rfl
  clear hun
  go_cut [6, 7, 8] (fun v6 v7 v8 W => ∃ bl1 cl1 bp1 cp1 x6 x7, v6 = .pointer (some ⟨x6, 0, none⟩) ∧ v7 = .pointer (some ⟨x7, 0, none⟩) ∧ v8 = .int .i64 r.err ∧ StepAt W1 r bl1 cl1 bp1 cp1 x6 x7 W)
  case first =>
      go_region_held3 (fun w' => Hold W1 w')
        (((try dsimp only); (repeat' first | with_reducible assumption | with_reducible refine Hold.drew ?_ | with_reducible refine Hold.alloc ?_ _ | with_reducible refine Hold.setCell ?_ (by simp <;> omega) _)))
        ((first
          | (go_at_call 19; refine (hcl _ ?_).mono ?_
             exact (by ((try dsimp only); (repeat' first | with_reducible assumption | with_reducible refine Hold.drew ?_ | with_reducible refine Hold.alloc ?_ _ | with_reducible refine Hold.setCell ?_ (by simp <;> omega) _)))
             rintro e w2 ⟨hX0, rfl, hb2⟩
             (first | (have z2 : Blk w2 W1.heap.size 32 stkZ := Blk.below' (by with_reducible first | exact (Blk.new _ _ _).drew | exact ((Blk.new _ _ _).alloc _).drew | exact Blk.new _ _ _ | exact (Blk.new _ _ _).alloc _) hb2; have Hz2 := Lib.hid z2; clear z2) | (have z2 : Blk w2 (W1.heap.size + 1) 32 stkZ := Blk.below' (by with_reducible first | exact (Blk.new2 _ _ _ _).drew | exact Blk.new2 _ _ _ _) hb2; have Hz2 := Lib.hid z2; clear z2) | skip)
             (first | (have v2 : Blk w2 W1.heap.size 34 cstZ := Blk.below' (by with_reducible first | exact (Blk.new _ _ _).drew | exact ((Blk.new _ _ _).alloc _).drew | exact Blk.new _ _ _ | exact (Blk.new _ _ _).alloc _) hb2; have Hv2 := Lib.hid v2; clear v2) | (have v2 : Blk w2 (W1.heap.size + 1) 34 cstZ := Blk.below' (by with_reducible first | exact (Blk.new2 _ _ _ _).drew | exact Blk.new2 _ _ _ _) hb2; have Hv2 := Lib.hid v2; clear v2) | skip)
             have hh2 : Hold W1 w2 := Hold.bel hX0 hb2
             have hs2 := hb2.size
             have hs0 := Hold.size hX0
             (try simp only [World.size_alloc, World.size_drew] at hs2 hs0)
             have hst2 := fun X (h : Below w2.heap.size w2 X) => (hst X (Hold.bel hh2 h)).mono fun e w' hp => (show Below w2.heap.size w2 X ∧ _ from ⟨h, hp⟩)
             have HST := Lib.hid hst2; clear hst2 hb2)
          | (go_at_call 14; refine (HST.out _ ?_).mono ?_
             exact (by (repeat' first | with_reducible exact Below.refl _ _ | with_reducible refine Below.drew ?_ | with_reducible refine Below.alloc ?_ (by simp <;> omega) _))
             rintro e w3 ⟨hX, bl1, cl1, bp1, cp1, rfl, hb3, ho, hp⟩
             (first | (have zz : Blk w3 _ 32 stkZ := Blk.below' (Hz2.out.below' hX) hb3; have Hzz := Lib.hid zz; obtain ⟨z0, z1, z2, z3, z4, gz, lz, nz, nz1⟩ := z32 zz; clear zz) | (have zz : Blk w3 w2.heap.size 32 stkZ := Blk.below' (by with_reducible first | exact (Blk.new _ _ _).drew | exact ((Blk.new _ _ _).alloc _).drew | exact Blk.new _ _ _ | exact (Blk.new _ _ _).alloc _) hb3; have Hzz := Lib.hid zz; obtain ⟨z0, z1, z2, z3, z4, gz, lz, nz, nz1⟩ := z32 zz; clear zz) | (have zz : Blk w3 (w2.heap.size + 1) 32 stkZ := Blk.below' (by with_reducible first | exact (Blk.new2 _ _ _ _).drew | exact Blk.new2 _ _ _ _) hb3; have Hzz := Lib.hid zz; obtain ⟨z0, z1, z2, z3, z4, gz, lz, nz, nz1⟩ := z32 zz; clear zz) | skip)
             (first | (have vv : Blk w3 _ 34 cstZ := Blk.below' (Hv2.out.below' hX) hb3; have Hvv := Lib.hid vv; obtain ⟨v0, v1, v2, v3, gv, lv, nv, nv1⟩ := z34 vv; clear vv) | (have vv : Blk w3 w2.heap.size 34 cstZ := Blk.below' (by with_reducible first | exact (Blk.new _ _ _).drew | exact ((Blk.new _ _ _).alloc _).drew | exact Blk.new _ _ _ | exact (Blk.new _ _ _).alloc _) hb3; have Hvv := Lib.hid vv; obtain ⟨v0, v1, v2, v3, gv, lv, nv, nv1⟩ := z34 vv; clear vv) | (have vv : Blk w3 (w2.heap.size + 1) 34 cstZ := Blk.below' (by with_reducible first | exact (Blk.new2 _ _ _ _).drew | exact Blk.new2 _ _ _ _) hb3; have Hvv := Lib.hid vv; obtain ⟨v0, v1, v2, v3, gv, lv, nv, nv1⟩ := z34 vv; clear vv) | skip)
             have hh3 : Hold W1 w3 := Hold.bel (Hold.bel hh2 hX) hb3
             have hs3 := hb3.size
             (try simp only [World.size_alloc] at hs3)
             have HO := Lib.hid ho; have HP := Lib.hid hp; clear ho hp hb3 hX)))
      · go_wp2_with fail
        go_meet
        exact ⟨bl1, cl1, bp1, cp1, w3.heap.size, w3.heap.size + 1, rfl, rfl, rfl, After.at (after1 _ _ _ _ _ _ _ _ _ _ _) hh3 (by first | omega | (simp <;> omega)) (by omega) (by omega) HO.out HP.out⟩
      · go_wp2_with fail
        go_meet
        exact ⟨bl1, cl1, bp1, cp1, w3.heap.size + 1, w3.heap.size, rfl, rfl, rfl, After.at (after2 _ _ _ _ _ _ _ _ _ _ _) hh3 (by first | omega | (simp <;> omega)) (by omega) (by omega) HO.out HP.out⟩
      · go_wp2_with fail
        go_meet
        exact ⟨bl1, cl1, bp1, cp1, w2.heap.size, w3.heap.size, rfl, rfl, rfl, After.at (after3 _ _ _ _ _ _ _ _ _ _ _ _ Hzz.out (by first | omega | (simp <;> omega))) hh3 (by first | omega | (simp <;> omega)) (by omega) (by omega) HO.out HP.out⟩
      · go_wp2_with fail
        go_meet
        exact ⟨bl1, cl1, bp1, cp1, w2.heap.size, w2.heap.size + 1, rfl, rfl, rfl, After.at (after4 _ _ _ _ _ _ _ _ _ _ _ _ Hzz.out Hvv.out (by omega) (by first | omega | (simp <;> omega)) (by first | omega | (simp <;> omega))) hh3 (by first | omega | (simp <;> omega)) (by omega) (by omega) HO.out HP.out⟩
      · go_wp2_with fail
        go_meet
        exact ⟨bl1, cl1, bp1, cp1, w3.heap.size, w2.heap.size, rfl, rfl, rfl, After.at (after5 _ _ _ _ _ _ _ _ _ _ _ _ Hvv.out (by first | omega | (simp <;> omega))) hh3 (by first | omega | (simp <;> omega)) (by omega) (by omega) HO.out HP.out⟩
      · go_wp2_with fail
        go_meet
        exact ⟨bl1, cl1, bp1, cp1, w2.heap.size + 1, w2.heap.size, rfl, rfl, rfl, After.at (after4 _ _ _ _ _ _ _ _ _ _ _ _ Hzz.out Hvv.out (by omega) (by first | omega | (simp <;> omega)) (by first | omega | (simp <;> omega))) hh3 (by first | omega | (simp <;> omega)) (by omega) (by omega) HO.out HP.out⟩
      · go_wp2_with fail
        go_meet
        exact ⟨bl1, cl1, bp1, cp1, W1.heap.size, w3.heap.size, rfl, rfl, rfl, After.at (after3 _ _ _ _ _ _ _ _ _ _ _ _ Hzz.out (by first | omega | (simp <;> omega))) hh3 (by first | omega | (simp <;> omega)) (by omega) (by omega) HO.out HP.out⟩
      · go_wp2_with fail
        go_meet
        exact ⟨bl1, cl1, bp1, cp1, W1.heap.size, w2.heap.size, rfl, rfl, rfl, After.at (after4 _ _ _ _ _ _ _ _ _ _ _ _ Hzz.out Hvv.out (by omega) (by first | omega | (simp <;> omega)) (by first | omega | (simp <;> omega))) hh3 (by first | omega | (simp <;> omega)) (by omega) (by omega) HO.out HP.out⟩
      · go_wp2_with fail
        go_meet
        exact ⟨bl1, cl1, bp1, cp1, W1.heap.size, W1.heap.size + 1, rfl, rfl, rfl, After.at (after4 _ _ _ _ _ _ _ _ _ _ _ _ Hzz.out Hvv.out (by omega) (by first | omega | (simp <;> omega)) (by first | omega | (simp <;> omega))) hh3 (by first | omega | (simp <;> omega)) (by omega) (by omega) HO.out HP.out⟩
      · go_wp2_with fail
        go_meet
        exact ⟨bl1, cl1, bp1, cp1, w3.heap.size, W1.heap.size, rfl, rfl, rfl, After.at (after5 _ _ _ _ _ _ _ _ _ _ _ _ Hvv.out (by first | omega | (simp <;> omega))) hh3 (by first | omega | (simp <;> omega)) (by omega) (by omega) HO.out HP.out⟩
      · go_wp2_with fail
        go_meet
        exact ⟨bl1, cl1, bp1, cp1, w2.heap.size, W1.heap.size, rfl, rfl, rfl, After.at (after4 _ _ _ _ _ _ _ _ _ _ _ _ Hzz.out Hvv.out (by omega) (by first | omega | (simp <;> omega)) (by first | omega | (simp <;> omega))) hh3 (by first | omega | (simp <;> omega)) (by omega) (by omega) HO.out HP.out⟩
      · go_wp2_with fail
        go_meet
        exact ⟨bl1, cl1, bp1, cp1, W1.heap.size + 1, W1.heap.size, rfl, rfl, rfl, After.at (after4 _ _ _ _ _ _ _ _ _ _ _ _ Hzz.out Hvv.out (by omega) (by first | omega | (simp <;> omega)) (by first | omega | (simp <;> omega))) hh3 (by first | omega | (simp <;> omega)) (by omega) (by omega) HO.out HP.out⟩
  case rest =>
    obtain ⟨bl1, cl1, bp1, cp1, x6, x7, rfl, rfl, rfl, hat⟩ := hcut
    clear hcl hst hh0 q0 q1 q2 q3 q4
    generalize wc = w2 at *
    have hk2 := HK1.out.below' hat.bel
    have hlv := fun X (h : Below w2.heap.size w2 X) => lives_any X (HLE.out.below ((HBW.out.trans (hat.bel.mono HBW.out.size)).trans (h.mono (by have := HBW.out.size; have := hat.bel.size; omega))))
    have hbw2 := HBW.out.trans (hat.bel.mono HBW.out.size)
    have a0 : w2.cell? ⟨b5, 0, none⟩ = some (.int .i64 s.qty) := by rw [hk2.cell]; rfl
    have a1 : w2.cell? ⟨b5, 1, none⟩ = some (.int .i64 s.val) := by rw [hk2.cell]; rfl
    have a2 : w2.cell? ⟨b5, 2, none⟩ = some (.int .i64 s.price) := by rw [hk2.cell]; rfl
    have a3 : w2.cell? ⟨b5, 3, none⟩ = some (.slice bl0 s.lays.length cl0) := by rw [hk2.cell]; rfl
    have a4 : w2.cell? ⟨b5, 4, none⟩ = some (.slice bp0 s.psts.length cp0) := by rw [hk2.cell]; rfl
    have t0 : w2.cell? ⟨x6, 0, none⟩ = some (.int .i64 r.stk.qty) := by rw [hat.t.cell]; rfl
    have t1 : w2.cell? ⟨x6, 1, none⟩ = some (.int .i64 r.stk.val) := by rw [hat.t.cell]; rfl
    have t2 : w2.cell? ⟨x6, 2, none⟩ = some (.int .i64 r.stk.price) := by rw [hat.t.cell]; rfl
    have t3 : w2.cell? ⟨x6, 3, none⟩ = some (.slice bl1 r.stk.lays.length cl1) := by rw [hat.t.cell]; rfl
    have t4 : w2.cell? ⟨x6, 4, none⟩ = some (.slice bp1 r.stk.psts.length cp1) := by rw [hat.t.cell]; rfl
    have u0 : w2.cell? ⟨x7, 0, none⟩ = some (.int .i64 r.cst.seq) := by rw [hat.c.cell]; rfl
    have u1 : w2.cell? ⟨x7, 1, none⟩ = some (.int .i64 r.cst.qty) := by rw [hat.c.cell]; rfl
    have u2 : w2.cell? ⟨x7, 2, none⟩ = some (.int .i64 r.cst.val) := by rw [hat.c.cell]; rfl
    have u3 : w2.cell? ⟨x7, 3, none⟩ = some (.int .i64 r.cst.var) := by rw [hat.c.cell]; rfl
    have hb5 : b5 < W1.heap.size := lk
    have hx6 := hat.h5
    have hx7 := hat.h6
    have hsz2 := hat.bel.size
    have HK2 := Lib.hid hk2; have HLV := Lib.hid hlv; have HBW2 := Lib.hid hbw2; have HAT := Lib.hid hat; clear hk2 hlv hbw2 hat
    rcases HLAW.out with ⟨her, hq1, hq2, pre, rest, ls, sum, hspl, hres, hs0, hs1, hcs⟩ | ⟨her, hbad⟩
    · have hold := old_of hspl hcs
      have hpre : sumQ (s.lays.take pre.length) = sumQ pre := by rw [hspl]; simp
      have he' : (r.err == 0) = true := by simpa using her
      have hqb := HG.out.qb
      have hvb := HG.out.vb
      have hnn := HG.out.nn
      have f1 : r.stk.qty = s.qty - q := by rw [hres]
      have f2 : r.stk.val = s.val - sum := by rw [hres]
      have f3 : r.stk.lays = ls := by rw [hres]
      have f4 : r.cst.qty = -q := by rw [hres]
      have f5 : r.cst.val = -sum := by rw [hres]
      rw [f1] at t0
      rw [f2] at t1
      rw [f3] at t3
      rw [f4] at u1
      rw [f5] at u2
      have hlt := HAT.out.l
      rw [f3] at hlt
      have HLT := Lib.hid hlt
      have HOLD := Lib.hid hold
      have HF3 := Lib.hid f3
      clear hlt hold hpre her hspl hres hcs f1 f2 f3 f4 f5 HLAW
      generalize pre.length = G at *
      have hln := HOLD.out.len
      have hgl := HG.out.l
      have d1 : IntKind.i64.wrap ((s.lays.length : Int) - (ls.length : Int)) = (G : Int) := by rw [i64_id _ (by omega) (by omega)]; omega
      have d2 : decide ((G : Int) < 0) = false := by simp
      have d3 : IntKind.i64.wrap (-q) = -q := i64_id _ (by omega) (by omega)
      have d4 : IntKind.i64.wrap (s.qty - q) = s.qty - q := i64_id _ (by omega) (by omega)
      have d5 : IntKind.i64.wrap (s.val - sum - s.val) = -sum := by rw [i64_id _ (by omega) (by omega)]; omega
      have HLN := Lib.hid hln; have HGL := Lib.hid hgl; clear hln hgl
      have hos := HOL1.out.below' HAT.out.bel
      have HOS := Lib.hid hos; clear hos
      have hG : G ≤ s.lays.length := by have := HLN.out; omega
      have hsq0 := take_le HGL.out G
      go_wp2_with fail
      go_loop [10, 11] (fun u i => ∃ j : Nat, u = .int .i64 (sumQ (s.lays.take j)) ∧ i = .int .i64 j ∧ j ≤ G) (fun u i => G - (intOf i).toNat)
      case atStart => exact ⟨0, by simp [sumQ], rfl, Nat.zero_le _⟩
      case round =>
        obtain ⟨j, rfl, rfl, hjG⟩ := hrel
        by_cases hj : j < G
        · have hjl : j < s.lays.length := by omega
          obtain ⟨g, kc, rfl, -, -, hr⟩ := HOS.out.block (by omega)
          obtain ⟨l0, l1, l2, l3⟩ := hr.lay j hjl
          have hsq := sumQ_take s.lays j hjl
          have htk := take_le HGL.out (j + 1)
          have htj := take_le HGL.out j
          rw [← HG.out.q] at htk htj
          generalize s.lays.getD j zLay = L at *
          have e1 : IntKind.i64.wrap (sumQ (s.lays.take j) + L.qty) = sumQ (s.lays.take (j + 1)) := by rw [hsq]; exact i64_id _ (by omega) (by omega)
          have t9 : decide ((j : Int) < (G : Int)) = true := by simp; omega
          have j1 : (0 : Int) ≤ (j : Int) := by omega
          have j2 : (j : Int) < (s.lays.length : Int) := by omega
          have E1 := Lib.hid e1; clear e1 hr hsq htk htj
          go_wp2_with fail
          go_round
          case rel => exact ⟨j + 1, (by first | exact congrArg (Value.int IntKind.i64) E1.out | exact congrArg (Value.int IntKind.i64) ((w64 _).symm.trans E1.out)), by go_num, by omega⟩
          case measure => simp [intOf]; omega
        · have hjG' : j = G := by omega
          subst hjG'
          have t9 : decide ((j : Int) < (j : Int)) = false := by simp
          have hfirst := HOLD.out.first
          generalize hU : sumQ (s.lays.take j) = U at *
          have HFI := Lib.hid hfirst; clear hfirst hU
          go_wp2_with fail
          go_loopg [12] ls.length (fun g i wx => ∃ k : Nat, i = .int .i64 k ∧ k ≤ ls.length ∧ g = ls.length - k ∧ Hold w2 wx)
          case atStart => exact ⟨0, rfl, Nat.zero_le _, rfl, Below.refl _ _⟩
          case round =>
            obtain ⟨k, rfl, hkl, hgk, hh⟩ := hrel
            have b3 : wr.cell? ⟨b5, 3, none⟩ = some (.slice bl0 s.lays.length cl0) := by rw [(HK2.out.below' hh).cell]; rfl
            have x3 : wr.cell? ⟨x6, 3, none⟩ = some (.slice bl1 ls.length cl1) := by rw [(HAT.out.t.below' hh).cell, HF3.out.symm]; rfl
            have HGK := Lib.hid hgk; clear hgk
            by_cases hk : k < ls.length
            · have t10 : decide ((k : Int) < (ls.length : Int)) = true := by simp; omega
              have hos2 := HOS.out.below' hh
              have hlt2 := HLT.out.below' hh
              have hln := HLN.out
              obtain ⟨g1, kc1, rfl, -, -, hr1⟩ := hos2.block (by omega)
              obtain ⟨g2, kc2, rfl, -, -, hr2⟩ := hlt2.block (by omega)
              obtain ⟨l0, l1, l2, l3⟩ := hr1.lay (j + k) (by omega)
              obtain ⟨m0, m1, m2, m3⟩ := hr2.lay k hk
              obtain ⟨s1, s2⟩ := HOLD.out.seq k hk
              rw [← s1] at m0
              rw [← s2] at m1
              have hsm := HOLD.out.same k hk
              have hfi := HFI.out
              have ba := HG.out.lay (getD_mem zLay s.lays (j + k) (by omega))
              have hfk : k = 0 → (s.lays.getD (j + k) zLay).qty - (ls.getD k zLay).qty = q - U := fun h => by subst h; exact hfi (by omega)
              have k1 : IntKind.i64.wrap ((j : Int) + (k : Int)) = (j : Int) + (k : Int) := i64_id _ (by omega) (by omega)
              have k2 : (0 : Int) ≤ (j : Int) + (k : Int) := by omega
              have k3 : (j : Int) + (k : Int) < (s.lays.length : Int) := by omega
              have k4 : ((j : Int) + (k : Int)).toNat = j + k := by omega
              have k5 : (0 : Int) ≤ (k : Int) := by omega
              have k6 : (k : Int) < (ls.length : Int) := by omega
              generalize s.lays.getD (j + k) zLay = La at *
              generalize ls.getD k zLay = Lb at *
              have HH := Lib.hid hh; have HSM := Lib.hid hsm; have HFK := Lib.hid hfk; clear hos2 hlt2 hr1 hr2 s1 s2 hsm hfi hfk hln
              have hh0 : Hold wr wr := Below.refl _ _
              have z3 : ∀ w', Hold wr w' → w'.cell? ⟨b5, 3, none⟩ = some (sl g1 s.lays.length cl0) := fun w' h => (Below.cell h (World.block_lt_of_cell? wr _ b3)).trans b3
              have z4 : ∀ w', Hold wr w' → w'.cell? ⟨x6, 3, none⟩ = some (sl g2 ls.length cl1) := fun w' h => (Below.cell h (World.block_lt_of_cell? wr _ x3)).trans x3
              have y0 : ∀ w', Hold wr w' → w'.cell? ⟨g1, (j + k) * 4, none⟩ = some (.int .i64 La.seq) := fun w' h => (Below.cell h (World.block_lt_of_cell? wr _ l0)).trans l0
              have y1 : ∀ w', Hold wr w' → w'.cell? ⟨g1, (j + k) * 4 + 1, none⟩ = some (.string La.lot) := fun w' h => (Below.cell h (World.block_lt_of_cell? wr _ l1)).trans l1
              have y2 : ∀ w', Hold wr w' → w'.cell? ⟨g1, (j + k) * 4 + 2, none⟩ = some (.int .i64 La.qty) := fun w' h => (Below.cell h (World.block_lt_of_cell? wr _ l2)).trans l2
              have y3 : ∀ w', Hold wr w' → w'.cell? ⟨g1, (j + k) * 4 + 3, none⟩ = some (.int .i64 La.val) := fun w' h => (Below.cell h (World.block_lt_of_cell? wr _ l3)).trans l3
              have v0 : ∀ w', Hold wr w' → w'.cell? ⟨g2, k * 4, none⟩ = some (.int .i64 La.seq) := fun w' h => (Below.cell h (World.block_lt_of_cell? wr _ m0)).trans m0
              have v1 : ∀ w', Hold wr w' → w'.cell? ⟨g2, k * 4 + 1, none⟩ = some (.string La.lot) := fun w' h => (Below.cell h (World.block_lt_of_cell? wr _ m1)).trans m1
              have v2 : ∀ w', Hold wr w' → w'.cell? ⟨g2, k * 4 + 2, none⟩ = some (.int .i64 Lb.qty) := fun w' h => (Below.cell h (World.block_lt_of_cell? wr _ m2)).trans m2
              have v3 : ∀ w', Hold wr w' → w'.cell? ⟨g2, k * 4 + 3, none⟩ = some (.int .i64 Lb.val) := fun w' h => (Below.cell h (World.block_lt_of_cell? wr _ m3)).trans m3
              go_upto_region 16 with fail
              clear b3 x3 l0 l1 l2 l3 m0 m1 m2 m3
              go_cut [13, 14] (fun v13 v14 W => ∃ x13 x14, v13 = .pointer (some ⟨x13, 0, none⟩) ∧ v14 = .pointer (some ⟨x14, 0, none⟩) ∧ Blk W x13 44 #[.int .i64 La.seq, .string La.lot, .int .i64 La.qty, .int .i64 La.val] ∧ Blk W x14 44 #[.int .i64 La.seq, .string La.lot, .int .i64 Lb.qty, .int .i64 Lb.val] ∧ Hold wr W)
              case first =>
                go_region_held3 (fun w' => Hold wr w')
                  (((try dsimp only); (repeat' first | with_reducible assumption | with_reducible refine Hold.drew ?_ | with_reducible refine Hold.alloc ?_ _ | with_reducible refine Hold.setCell ?_ (by simp <;> omega) _)))
                  (fail)
                · go_wp2_with fail
                  go_meet
                  exact ⟨wr.heap.size, wr.heap.size + 1, rfl, rfl, ((Blk.new _ _ _).alloc _).drew, (Blk.new2 _ _ _ _).drew, ((hh0.alloc _).alloc _).drew⟩
                · go_wp2_with fail
                  go_meet
                  exact ⟨wr.heap.size + 1, wr.heap.size, rfl, rfl, (Blk.new2 _ _ _ _).drew, ((Blk.new _ _ _).alloc _).drew, ((hh0.alloc _).alloc _).drew⟩
              case rest =>
                obtain ⟨x13, x14, rfl, rfl, hba, hbb, hhW⟩ := hcut
                have HHW := Lib.hid (Hold.bel HH.out hhW)
                clear z3 z4 hh0 hhW
                generalize wc = w4 at *
                by_cases hk0 : k = 0
                · have hd := HFK.out hk0
                  subst hk0
                  have d6 : IntKind.i64.wrap (La.qty - Lb.qty) = q - U := by have := HG.out.q; rw [hd]; exact i64_id _ (by omega) (by omega)
                  have d7 : IntKind.i64.wrap (q - U) = q - U := by have := HG.out.q; exact i64_id _ (by omega) (by omega)
                  clear hd
                  have a0 : w4.cell? ⟨x13, 0, none⟩ = some (.int .i64 La.seq) := by rw [hba.cell]; rfl
                  have a1 : w4.cell? ⟨x13, 1, none⟩ = some (.string La.lot) := by rw [hba.cell]; rfl
                  have a2 : w4.cell? ⟨x13, 2, none⟩ = some (.int .i64 La.qty) := by rw [hba.cell]; rfl
                  have a3 : w4.cell? ⟨x13, 3, none⟩ = some (.int .i64 La.val) := by rw [hba.cell]; rfl
                  have b0 : w4.cell? ⟨x14, 0, none⟩ = some (.int .i64 La.seq) := by rw [hbb.cell]; rfl
                  have b1 : w4.cell? ⟨x14, 1, none⟩ = some (.string La.lot) := by rw [hbb.cell]; rfl
                  have b2 : w4.cell? ⟨x14, 2, none⟩ = some (.int .i64 Lb.qty) := by rw [hbb.cell]; rfl
                  have b3 : w4.cell? ⟨x14, 3, none⟩ = some (.int .i64 Lb.val) := by rw [hbb.cell]; rfl
                  clear hba hbb
                  go_wp2_with fail
                  go_roundg (ls.length - 1)
                  case measure => rw [HGK.out]; omega
                  case rel => exact ⟨1, by go_num, by omega, rfl, HHW.out⟩
                · have hs := HSM.out (by omega)
                  subst hs
                  have tk : decide ((0 : Int) < (k : Int)) = true := by simp; omega
                  have tk2 : ((k : Int) == 0) = false := by simp; omega
                  have a0 : w4.cell? ⟨x13, 0, none⟩ = some (.int .i64 La.seq) := by rw [hba.cell]; rfl
                  have a1 : w4.cell? ⟨x13, 1, none⟩ = some (.string La.lot) := by rw [hba.cell]; rfl
                  have a2 : w4.cell? ⟨x13, 2, none⟩ = some (.int .i64 La.qty) := by rw [hba.cell]; rfl
                  have a3 : w4.cell? ⟨x13, 3, none⟩ = some (.int .i64 La.val) := by rw [hba.cell]; rfl
                  have b0 : w4.cell? ⟨x14, 0, none⟩ = some (.int .i64 La.seq) := by rw [hbb.cell]; rfl
                  have b1 : w4.cell? ⟨x14, 1, none⟩ = some (.string La.lot) := by rw [hbb.cell]; rfl
                  have b2 : w4.cell? ⟨x14, 2, none⟩ = some (.int .i64 La.qty) := by rw [hbb.cell]; rfl
                  have b3 : w4.cell? ⟨x14, 3, none⟩ = some (.int .i64 La.val) := by rw [hbb.cell]; rfl
                  clear hba hbb
                  go_wp2_with fail
                  go_roundg (ls.length - (k + 1))
                  case measure => rw [HGK.out]; omega
                  case rel => exact ⟨k + 1, by go_num, by omega, rfl, HHW.out⟩
            · have t10 : decide ((k : Int) < (ls.length : Int)) = false := by simp; omega
              have hlv := HLV.out wr hh
              have HHW := Lib.hid hh; clear hh
              go_wp2_with fail
              refine hlv.mono ?_
              rintro e w5 ⟨rfl, hb5'⟩
              have HB5 := Lib.hid ((HBW2.out.trans (Below.mono HHW.out (by have := HBW2.out.size; omega))).trans (hb5'.mono (by have := HBW2.out.size; have := Hold.size HHW.out; omega))); clear hb5' hlv
              go_wp2_with fail
              go_ret
              exact ⟨rfl, HB5.out⟩
    · have he' : (r.err == 0) = false := by simpa using her
      have hlv := HLV.out w2 (Below.refl _ _)
      have HLV2 := Lib.hid hlv; have HBAD := Lib.hid hbad; clear hlv hbad her
      by_cases g1 : q < 1
      · have s1 : decide (q < 1) = true := by simpa using g1
        go_wp2_with fail
        refine HLV2.out.mono ?_
        rintro e w5 ⟨rfl, hb5'⟩
        have HB5 := Lib.hid (HBW2.out.trans (hb5'.mono (by have := HBW2.out.size; omega))); clear hb5'
        go_wp2_with fail
        go_ret
        exact ⟨rfl, HB5.out⟩
      · have s1 : decide (q < 1) = false := by simpa using g1
        by_cases g2 : 1000000000 < q
        · have s2 : decide (1000000000 < q) = true := by simpa using g2
          go_wp2_with fail
          refine HLV2.out.mono ?_
          rintro e w5 ⟨rfl, hb5'⟩
          have HB5 := Lib.hid (HBW2.out.trans (hb5'.mono (by have := HBW2.out.size; omega))); clear hb5'
          go_wp2_with fail
          go_ret
          exact ⟨rfl, HB5.out⟩
        · have s2 : decide (1000000000 < q) = false := by simpa using g2
          obtain ⟨h21, hlt⟩ : r.err = 21 ∧ s.qty < q := by
            rcases HBAD.out with hb | h
            · exact absurd ⟨by omega, by omega⟩ hb
            · exact h
          have s3 : (r.err == 21) = true := by simpa using h21
          have s4 : decide (s.qty < q) = true := by simpa using hlt
          clear h21 hlt g1 g2
          go_wp2_with fail
          refine HLV2.out.mono ?_
          rintro e w5 ⟨rfl, hb5'⟩
          have HB5 := Lib.hid (HBW2.out.trans (hb5'.mono (by have := HBW2.out.size; omega))); clear hb5'
          go_wp2_with fail
          go_ret
          exact ⟨rfl, HB5.out⟩
end Go.Proofs.YtboiipkbhbbgfaaDoor
