/- FifoAny returns true for every state and every movement. Condition: the table of the months' lengths stands as the program's text lays it. -/
import Derived.Test.YtboiipkbhbbgfaaDoorH1
namespace Go.Proofs.YtboiipkbhbbgfaaDoor
open Go.RowKit

theorem Rd.form {w : World} {k : Nat} {v : Value} {n : Nat} {cs : List Value} (h : Rd w k v n cs) : ∃ b c, v = .slice b n c := by
  rcases h.2 with ⟨rfl, rfl⟩ | ⟨a, c, rfl, _⟩
  · exact ⟨_, _, rfl⟩
  · exact ⟨_, _, rfl⟩

set_option maxRecDepth 100000 in
set_option maxHeartbeats 8000000 in
theorem any_walk (s : Stk) (m : Mov) (vl vp : Value) (w : World) (hl : Rd w 4 vl s.lays.length (laysC s.lays)) (hp : Rd w 7 vp s.psts.length (pstsC s.psts))
    (hok : LaysOk s.lays) (hpk : PstsOk s.psts) (hq : I64 m.qty) (hcost : I64 m.cost) (hlen : LengthsAt w) :
    Calls Tryd.prog 10 #[.agg (stkA s.qty s.val s.price vl vp), m.v] w fun e w' => e = .returned (.bool true) ∧ Below w.heap.size w w' := by
  obtain ⟨bl, cl, rfl⟩ := hl.form
  obtain ⟨bp, cp, rfl⟩ := hp.form
  by_cases h1 : 100 < s.lays.length
  · have t1 : decide ((100 : Int) < (s.lays.length : Int)) = true := by simp; omega
    clear hl hp hok hpk hlen h1
    go_enter Tryd.func10, Tryd.ntmps10
    go_wp2_with fail
    go_ret
    exact ⟨rfl, ((Below.refl _ _).alloc (Nat.le_refl _) _).alloc (by simp) _⟩
  have t1 : decide ((100 : Int) < (s.lays.length : Int)) = false := by simp; omega
  by_cases h2 : 100 < s.psts.length
  · have t2 : decide ((100 : Int) < (s.psts.length : Int)) = true := by simp; omega
    clear hl hp hok hpk hlen h1
    go_enter Tryd.func10, Tryd.ntmps10
    go_wp2_with fail
    go_ret
    exact ⟨rfl, ((Below.refl _ _).alloc (Nat.le_refl _) _).alloc (by simp) _⟩
  have t2 : decide ((100 : Int) < (s.psts.length : Int)) = false := by simp; omega
  have hc := fun w h1 h2 h3 => step_any s m (.slice bl s.lays.length cl) (.slice bp s.psts.length cp) w h1 h2 (by omega) (by omega) hok hpk hq hcost h3
  have HL := Lib.hid hl; have HP := Lib.hid hp; have HLE := Lib.hid hlen; clear hl hp hok hpk hlen h1 h2
  go_enter Tryd.func10, Tryd.ntmps10
  go_wp2_with fail
  have hb : Below w.heap.size w ((w.alloc (.cells (stkA s.qty s.val s.price (.slice bl s.lays.length cl) (.slice bp s.psts.length cp)) 32)).alloc (.cells (mCells m) 38)) := ((Below.refl _ _).alloc (Nat.le_refl _) _).alloc (by simp) _
  refine (hc _ (HL.out.below hb) (HP.out.below hb) (HLE.out.below hb)).mono ?_
  rintro e w1 ⟨vl1, vp1, rfl, hb1, -, -⟩
  have hbb := hb.trans (hb1.mono (by simp <;> omega))
  clear hb1 hb hc
  have HB := Lib.hid hbb; clear hbb
  go_wp2_with fail
  refine (lives_any _ (HLE.out.below HB.out)).mono ?_
  rintro e w2 ⟨rfl, hb2⟩
  have HB2 := Lib.hid (HB.out.trans (hb2.mono HB.out.size)); clear hb2
  go_wp2_with fail
  go_ret
  exact ⟨rfl, HB2.out⟩
end Go.Proofs.YtboiipkbhbbgfaaDoor
