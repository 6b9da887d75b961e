/- The walks of fifo's writing to a state: remove. -/
import Derived.Test.YtboiipkbhbbgfaaDoorG2
namespace Go.Proofs.YtboiipkbhbbgfaaDoor
open Go.RowKit

theorem laysC_take (ls : List Lay) : ∀ i, (laysC ls).take (i * 4) = laysC (ls.take i) := by
  induction ls with
  | nil => intro i; simp [laysC]
  | cons l ls ih =>
    intro i
    cases i with
    | zero => simp [laysC]
    | succ i =>
      simp only [laysC, List.flatMap_cons, List.take_succ_cons] at *
      rw [List.take_append, List.take_of_length_le (by simp [Lay.cs]; omega)]
      have h1 : (i + 1) * 4 - l.cs.length = i * 4 := by simp [Lay.cs]; omega
      rw [h1, ih]
theorem laysC_drop (ls : List Lay) : ∀ i, (laysC ls).drop (i * 4) = laysC (ls.drop i) := by
  induction ls with
  | nil => intro i; simp [laysC]
  | cons l ls ih =>
    intro i
    cases i with
    | zero => simp [laysC]
    | succ i =>
      simp only [laysC, List.flatMap_cons, List.drop_succ_cons] at *
      rw [List.drop_append, List.drop_eq_nil_of_le (by simp [Lay.cs]; omega)]
      have h1 : (i + 1) * 4 - l.cs.length = i * 4 := by simp [Lay.cs]; omega
      rw [h1, ih, List.nil_append]
theorem laysC_one (ls : List Lay) : ∀ v ∈ laysC ls, v.oneCell' = true := by
  intro v hv
  simp only [laysC, List.mem_flatMap] at hv
  obtain ⟨l, _, hl⟩ := hv
  simp [Lay.cs] at hl
  rcases hl with rfl | rfl | rfl | rfl <;> rfl
theorem LRow.head {w : World} {g c : Nat} {ls : List Lay} {cur : Array Value} (h : LRow w g c ls cur) (i : Nat) (hi : i ≤ ls.length) : Row w g 44 4 i i (laysC (ls.take i)) cur :=
  ⟨h.blk, Nat.le_refl _, Nat.le_trans (Nat.le_trans hi h.nc) h.cm, Nat.le_trans (Nat.mul_le_mul_right _ (Nat.le_trans hi h.nc)) h.sz,
    by rw [← laysC_take, ← h.take, List.take_take]; congr 1; have := Nat.mul_le_mul_right 4 hi; omega, by rw [laysC_length, List.length_take]; congr 1; omega⟩
theorem LRow.tail {w : World} {g c : Nat} {ls : List Lay} {cur : Array Value} (h : LRow w g c ls cur) (i : Nat) (hi : i ≤ ls.length) (j : Nat) (u : Value) (hj : (laysC (ls.drop i))[j]? = some u) : w.cell? ((⟨g, i * 4, none⟩ : Addr).add j) = some u := by
  have hadd : (⟨g, i * 4, none⟩ : Addr).add j = ⟨g, i * 4 + j, none⟩ := by unfold Addr.add; split <;> simp_all
  have hlt := (List.getElem?_eq_some_iff.1 hj).1
  rw [laysC_length, List.length_drop] at hlt
  rw [hadd, h.get _ (by rw [Nat.sub_mul] at hlt; omega), ← hj, ← laysC_drop, List.getElem?_drop]

theorem remF {w w1 : World} {gx gl : Nat} {e : TypeId} {cur : Array Value} {o : Nat} {v : Value} (h : Chg [gl] w.drew w1) (hx : Blk w gx e cur) (hn : gx ≠ gl) (hv : cur[o]? = some v) :
    w1.cell? ⟨gx, o, none⟩ = some v ∧ w1.frozen? ⟨gx, o, none⟩ = false ∧ Chg [gl] w w1 := by
  have hb : Blk w1 gx e cur := (hx.drew).chg h (by simpa using hn)
  exact ⟨by rw [hb.cell, hv], hb.frozen o, ((Chg.refl [gl] w).drew).trans h (fun x hx => .inl hx)⟩

set_option maxRecDepth 100000 in
set_option maxHeartbeats 2000000 in
theorem remove_any (gx gl gp cl cp : Nat) (s : Stk) (m : Mov) (c : Cst) (kl kp : Array Value) (i : Nat) (w : World) (h : St w gx gl gp cl cp s m c kl kp) (hi : i < s.lays.length) (hn : s.lays.length ≤ 1000) :
    Calls Tryd.prog 84 #[.pointer (some ⟨gx, 0, none⟩), .int .i64 i] w fun e w' => e = .returned (.tuple #[]) ∧ StL w w' gx gl gp cp { s with lays := s.lays.take i ++ s.lays.drop (i + 1) } m c kp := by
  obtain ⟨hx, hl, hp, xl, xp, lp⟩ := h
  obtain ⟨i0, hi0, hz0, hz1, hz2⟩ := info_parts Tryd.info44
  have lx := hx.lt
  have ll := hl.blk.lt
  have lpp := hp.blk.lt
  have hnc := hl.nc
  have c3 : w.cell? ⟨gx, 3, none⟩ = some (sl gl s.lays.length cl) := by rw [hx.cell]; rfl
  have f3 : w.frozen? ⟨gx, 3, none⟩ = false := hx.frozen 3
  have HX := Lib.hid hx; have HL := Lib.hid hl; have HP := Lib.hid hp; clear hx hl hp
  have n3 := World.new_ne w _ c3
  have k0 : (0 : Int) ≤ (i : Int) := by omega
  have k1 : (i : Int) ≤ (cl : Int) := by omega
  have k2 : (0 : Int) ≤ (i : Int) + 1 := by omega
  have k3 : (i : Int) + 1 ≤ (s.lays.length : Int) := by omega
  have k4 : ((i : Int) + 1).toNat = i + 1 := by omega
  have k5 : IntKind.i64.wrap ((i : Int) + 1) = i + 1 := i64_id _ (by omega) (by omega)
  have k6 : (i : Int) ≤ (i : Int) + 1 := by omega
  by_cases hc : cl = i + 1
  · have hd : s.lays.drop (i + 1) = [] := List.drop_eq_nil_of_le (by omega)
    have HD := Lib.hid hd; clear hd
    have hq : s.lays.length = i + 1 := by omega
    have HQ := Lib.hid hq; clear hq
    have HC := Lib.hid hc
    go_enter Tryd.func84, Tryd.ntmps84
    go_region_law
      ((refine step_append_row _ (by rfl) _ _ _ (by rfl) 44 i0 _ 4 40 Tryd.underlying29 hi0 hz0 hz1 hz2 rfl gl i i _ kl (by rfl) ((LRow.head HL.out i (by omega)).of_blk HL.out.blk.drew)
          ⟨gl, 0, none⟩ (s.lays.length - (i + 1)) _ [] (by rfl) (by rw [HQ.out]; simp) (by simp) (by simp)
          (by simp [maxLen]; omega) (by omega) w.heap.size (by simp) ?_; intro gg cap cur1 w1 hrow hchg hat
        obtain ⟨hx1, hf1, hch⟩ := remF hchg HX.out xl (o := 3) (by rfl)))
    all_goals go_wp2_with fail
    all_goals
      have hlen : (s.lays.take i ++ s.lays.drop (i + 1)).length = i + (s.lays.length - (i + 1)) := by rw [List.length_append, List.length_take, List.length_drop]; omega
      have he := (show St w gx gl gp cl cp s m c kl kp from ⟨HX.out, HL.out, HP.out, xl, xp, lp⟩).setx3 (cur1 := cur1) (ls' := s.lays.take i ++ s.lays.drop (i + 1)) (gg := gg) (cap := cap) hch (by rw [LRow, hlen, laysC_append]; first | exact hrow | (rw [HD.out]; exact hrow)) (by omega)
      rw [hlen] at he
      refine bodyPost_end (v := .tuple #[]) (by simp [results, Tryd.results84, go_sem]) rfl ⟨rfl, he⟩
  · go_enter Tryd.func84, Tryd.ntmps84
    go_region_law
      ((refine step_append_row _ (by rfl) _ _ _ (by rfl) 44 i0 _ 4 40 Tryd.underlying29 hi0 hz0 hz1 hz2 rfl gl i i _ kl (by rfl) ((LRow.head HL.out i (by omega)).of_blk HL.out.blk.drew)
          ⟨gl, (i + 1) * 4, none⟩ (s.lays.length - (i + 1)) (cl - (i + 1)) (laysC (s.lays.drop (i + 1))) (by rfl) (by rw [laysC_length, List.length_drop]) (fun j u hu => LRow.tail HL.out (i + 1) (by omega) j u hu) (laysC_one _)
          (by simp [maxLen]; omega) (by omega) w.heap.size (by simp) ?_; intro gg cap cur1 w1 hrow hchg hat
        obtain ⟨hx1, hf1, hch⟩ := remF hchg HX.out xl (o := 3) (by rfl)))
    all_goals go_wp2_with fail
    all_goals
      have hlen : (s.lays.take i ++ s.lays.drop (i + 1)).length = i + (s.lays.length - (i + 1)) := by rw [List.length_append, List.length_take, List.length_drop]; omega
      have he := (show St w gx gl gp cl cp s m c kl kp from ⟨HX.out, HL.out, HP.out, xl, xp, lp⟩).setx3 (cur1 := cur1) (ls' := s.lays.take i ++ s.lays.drop (i + 1)) (gg := gg) (cap := cap) hch (by rw [LRow, hlen, laysC_append]; first | exact hrow | (rw [HD.out]; exact hrow)) (by omega)
      rw [hlen] at he
      refine bodyPost_end (v := .tuple #[]) (by simp [results, Tryd.results84, go_sem]) rfl ⟨rfl, he⟩
end Go.Proofs.YtboiipkbhbbgfaaDoor
