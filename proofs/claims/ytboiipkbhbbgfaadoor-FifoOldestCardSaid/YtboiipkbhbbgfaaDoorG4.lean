/- The walks of fifo's part, Near, far, layer, over, referred. -/
import Derived.Test.YtboiipkbhbbgfaaDoorG3
namespace Go.Proofs.YtboiipkbhbbgfaaDoor
open Go.RowKit

abbrev I64 (n : Int) : Prop := -9223372036854775808 ≤ n ∧ n ≤ 9223372036854775807
theorem I64.wrap (n : Int) : I64 (wrap64 n) := by unfold I64 wrap64; omega

set_option maxRecDepth 100000 in
set_option maxHeartbeats 1000000 in
theorem part_any (v q n : Int) (w : World) (hv : I64 v) (hq : I64 q) (hn : I64 n) : Calls Tryd.prog 60 #[.int .i64 v, .int .i64 q, .int .i64 n] w fun e w' => e = .returned (.int .i64 (partM v q n)) ∧ Below w.heap.size w w' := by
  by_cases h : q = n
  · have h' : (q == n) = true := by simpa using h
    have H := Lib.hid h; clear h
    go_enter Tryd.func60, Tryd.ntmps60
    go_wp2
    go_ret
    exact ⟨ret_int (by unfold partM; rw [if_pos H.out]), Below.refl _ _⟩
  · have h' : (q == n) = false := by simpa using h
    have H := Lib.hid h; clear h
    go_enter Tryd.func60, Tryd.ntmps60
    go_wp2_with fail
    refine (muldiv_calls v q n 4 _ hv.1 hv.2 hq.1 hq.2 hn.1 hn.2 (by omega) (by omega)).mono ?_
    rintro e w1 ⟨rfl, hb⟩
    go_wp2_with fail
    go_ret
    exact ⟨ret_int (by unfold partM; rw [if_neg H.out]), hb⟩

def nearM (n : Int) : Int := if n < -1000000000000000 then -1000000000000000 else if 1000000000000000 < n then 1000000000000000 else n
theorem near_far (n : Int) : (!(nearM n == n)) = farM n := by
  unfold nearM farM
  by_cases h : n < -1000000000000000
  · simp [h]; omega
  · by_cases h2 : 1000000000000000 < n
    · simp [h, h2]; omega
    · simp [h, h2]

set_option maxHeartbeats 1000000 in
theorem near_any (n : Int) (w : World) : Calls Tryd.prog 85 #[.int .i64 n, .int .i64 (-1000000000000000), .int .i64 1000000000000000] w fun e w' => e = .returned (.int .i64 (nearM n)) ∧ w = w' := by
  by_cases h : n < -1000000000000000
  · have h' : decide (n < -1000000000000000) = true := by simpa using h
    have H := Lib.hid h; clear h
    go_enter Tryd.func85, Tryd.ntmps85
    go_wp2
    go_ret
    exact ⟨ret_int (by unfold nearM; rw [if_pos H.out]), rfl⟩
  · have h' : decide (n < -1000000000000000) = false := by simpa using h
    have H := Lib.hid h; clear h
    by_cases h2 : 1000000000000000 < n
    · have h2' : decide (1000000000000000 < n) = true := by simpa using h2
      have H2 := Lib.hid h2; clear h2
      go_enter Tryd.func85, Tryd.ntmps85
      go_wp2
      go_ret
      exact ⟨ret_int (by unfold nearM; rw [if_neg (Int.not_lt.2 H.out), if_pos H2.out]), rfl⟩
    · have h2' : decide (1000000000000000 < n) = false := by simpa using h2
      have H2 := Lib.hid h2; clear h2
      go_enter Tryd.func85, Tryd.ntmps85
      go_wp2
      go_ret
      exact ⟨ret_int (by unfold nearM; rw [if_neg (Int.not_lt.2 H.out), if_neg (Int.not_lt.2 H2.out)]), rfl⟩

set_option maxHeartbeats 1000000 in
theorem far_any (n : Int) (w : World) : Calls Tryd.prog 62 #[.int .i64 n] w fun e w' => e = .returned (.bool (farM n)) ∧ w = w' := by
  go_enter Tryd.func62, Tryd.ntmps62
  go_wp2_with fail
  refine (near_any _ _).mono ?_; rintro e w1 ⟨rfl, rfl⟩
  go_wp2_with fail
  go_ret
  exact ⟨ret_bool (near_far n), rfl⟩

theorem layer_le (sq : Int) : ∀ ls : List Lay, layerM sq ls ≤ ls.length
  | [] => Nat.le_refl _
  | p :: ps => by unfold layerM; split <;> simp [layer_le sq ps]
theorem layer_step (sq : Int) : ∀ (ls : List Lay) (k : Nat), k < ls.length → k ≤ layerM sq ls →
    ((ls.getD k zLay).seq = sq → layerM sq ls = k) ∧ (¬ (ls.getD k zLay).seq = sq → k + 1 ≤ layerM sq ls)
  | [], k, h, _ => by simp at h
  | p :: ps, 0, _, _ => by
    constructor
    · intro h; simp at h; simp [layerM, h]
    · intro h; simp at h; unfold layerM; rw [if_neg h]; omega
  | p :: ps, k + 1, h, hk => by
    have hn : ¬ p.seq = sq := by
      intro hh
      unfold layerM at hk
      rw [if_pos hh] at hk
      omega
    have he : layerM sq (p :: ps) = layerM sq ps + 1 := by rw [layerM, if_neg hn]
    rw [he] at hk ⊢
    have := layer_step sq ps k (by simpa using h) (by omega)
    simp only [List.getD_cons_succ]
    constructor
    · intro hh; rw [this.1 hh]
    · intro hh; have := this.2 hh; omega

theorem getD_at {α : Type} (l : List α) (d : α) (j : Nat) (h : j < l.length) : l.getD j d = l[j] := by simp [List.getD, h]

/-- the index of a layer, or -1 -/
def layI (k n : Nat) : Int := if k < n then (k : Int) else -1

set_option maxRecDepth 100000 in
set_option maxHeartbeats 2000000 in
theorem layer_any (gx gl cl : Nat) (ls : List Lay) (kl : Array Value) (sq : Int) (w : World) (hx : w.cell? ⟨gx, 3, none⟩ = some (sl gl ls.length cl)) (hl : LRow w gl cl ls kl) (hn : ls.length ≤ 1000) :
    Calls Tryd.prog 61 #[.pointer (some ⟨gx, 0, none⟩), .int .i64 sq] w fun e w' => e = .returned (.int .i64 (layI (layerM sq ls) ls.length)) ∧ Below w.heap.size w w' := by
  have HL := Lib.hid hl; clear hl
  have hgl := HL.out.blk.lt
  go_enter Tryd.func61, Tryd.ntmps61
  go_wp2
  go_loopg [13] ls.length (fun g i wr => ∃ k : Nat, k + g = ls.length ∧ k ≤ layerM sq ls ∧ i = .int .i64 k ∧ Below w.heap.size w wr)
  case atStart => exact ⟨0, by simp, Nat.zero_le _, rfl, Below.refl _ _⟩
  case round =>
    obtain ⟨k, hk0, hk, rfl, hbl⟩ := hrel
    have HB := Lib.hid hbl; clear hbl
    by_cases hlt : k < ls.length
    · obtain ⟨c0, c1, c2, c3⟩ := Row.lay (HL.out.of_blk (HL.out.blk.below' HB.out)) k hlt
      obtain ⟨f1, f2⟩ := layer_step sq ls k hlt hk
      generalize ls.getD k zLay = P at *
      have F1 := Lib.hid f1
      have F2 := Lib.hid f2
      clear f1 f2
      by_cases h1 : P.seq = sq
      · have h1' : (P.seq == sq) = true := by simpa using h1
        have H1 := Lib.hid h1; clear h1
        go_wp2
        go_ret
        exact ⟨ret_int (by rw [F1.out H1.out]; unfold layI; rw [if_pos hlt]), HB.out.alloc HB.out.size _⟩
      · have h1' : (P.seq == sq) = false := by simpa using h1
        have H1 := Lib.hid h1; clear h1
        go_wp2
        go_roundg (gk - 1)
        case rel => exact ⟨k + 1, by omega, F2.out H1.out, by go_num, HB.out.alloc HB.out.size _⟩
        case measure => omega
    · go_wp2
      go_ret
      exact ⟨ret_int (by unfold layI; rw [if_neg (by omega)]), HB.out⟩

set_option maxRecDepth 100000 in
set_option maxHeartbeats 2000000 in
theorem over_any (gx gl cl : Nat) (ls : List Lay) (kl : Array Value) (q v d : Int) (w : World) (hx : w.cell? ⟨gx, 3, none⟩ = some (sl gl ls.length cl)) (hx0 : w.cell? ⟨gx, 0, none⟩ = some (.int .i64 q)) (hx1 : w.cell? ⟨gx, 1, none⟩ = some (.int .i64 v)) (hx2 : w.cell? ⟨gx, 16, none⟩ = some (.int .i64 d))
    (hl : LRow w gl cl ls kl) (hn : ls.length ≤ 1000) :
    Calls Tryd.prog 36 #[.pointer (some ⟨gx, 0, none⟩)] w fun e w' => e = .returned (.bool (overM ls q v d)) ∧ Below w.heap.size w w' := by
  have HL := Lib.hid hl; clear hl
  have hgl := HL.out.blk.lt
  have hgx := World.block_lt_of_cell? w _ hx
  go_enter Tryd.func36, Tryd.ntmps36
  go_wp2
  go_loopg [11] ls.length (fun g i wr => ∃ k : Nat, k + g = ls.length ∧ (∀ j, j < k → farM (ls.getD j zLay).val = false) ∧ i = .int .i64 k ∧ Below w.heap.size w wr)
  case atStart => exact ⟨0, by simp, by simp, rfl, Below.refl _ _⟩
  case round =>
    obtain ⟨k, hk0, hk, rfl, hbl⟩ := hrel
    have HB := Lib.hid hbl; clear hbl
    have HK := Lib.hid hk; clear hk
    by_cases hlt : k < ls.length
    · obtain ⟨c0, c1, c2, c3⟩ := Row.lay (HL.out.of_blk (HL.out.blk.below' HB.out)) k hlt
      have hP : ls.getD k zLay = ls.getD k zLay := rfl
      generalize hPe : ls.getD k zLay = P at *
      have HPe := Lib.hid hPe
      clear hPe hP
      cases hf : farM P.val with
      | true =>
        have HF := Lib.hid hf; clear hf
        go_wp2_with fail
        refine (far_any _ _).mono ?_; rintro e w1 ⟨rfl, rfl⟩
        rw [HF.out]
        go_wp2_with fail
        go_ret
        refine ⟨ret_bool ?_, HB.out.alloc HB.out.size _⟩
        unfold overM
        rw [show ls.any (fun l => farM l.val) = true from List.any_eq_true.2 ⟨P, by rw [← HPe.out, getD_at _ _ _ hlt]; exact List.getElem_mem _, HF.out⟩]
        rfl
      | false =>
        have HF := Lib.hid hf; clear hf
        go_wp2_with fail
        refine (far_any _ _).mono ?_; rintro e w1 ⟨rfl, rfl⟩
        rw [HF.out]
        go_wp2_with fail
        go_roundg (gk - 1)
        case rel =>
          refine ⟨k + 1, by omega, ?_, by go_num, HB.out.alloc HB.out.size _⟩
          intro j hj
          by_cases h : j = k
          · subst h; rw [HPe.out]; exact HF.out
          · exact HK.out j (by omega)
        case measure => omega
    · have hany : ls.any (fun l => farM l.val) = false := by
        rw [List.any_eq_false]
        intro l hl
        obtain ⟨j, hj, rfl⟩ := List.getElem_of_mem hl
        have := HK.out j (by omega)
        rw [getD_at _ _ _ hj] at this
        simp [this]
      have HA := Lib.hid hany; clear hany
      have d0 : wr.cell? ⟨gx, 0, none⟩ = some (.int .i64 q) := by rw [HB.out.cell (p := ⟨gx, 0, none⟩) hgx]; exact hx0
      have d1 : wr.cell? ⟨gx, 1, none⟩ = some (.int .i64 v) := by rw [HB.out.cell (p := ⟨gx, 1, none⟩) hgx]; exact hx1
      have d2 : wr.cell? ⟨gx, 16, none⟩ = some (.int .i64 d) := by rw [HB.out.cell (p := ⟨gx, 16, none⟩) hgx]; exact hx2
      cases hq : decide (1000000000 < q) with
      | true =>
        have HQ := Lib.hid hq
        go_wp2_with fail
        go_ret
        exact ⟨ret_bool (by unfold overM; rw [HA.out, HQ.out]; rfl), HB.out⟩
      | false =>
        have HQ := Lib.hid hq
        go_wp2_with fail
        refine (far_any _ _).mono ?_; rintro e w1 ⟨rfl, rfl⟩
        cases hv : farM v with
        | true =>
          have HV := Lib.hid hv; clear hv
          go_wp2_with fail
          go_ret
          exact ⟨ret_bool (by unfold overM; rw [HA.out, HQ.out, HV.out]; rfl), HB.out⟩
        | false =>
          have HV := Lib.hid hv; clear hv
          go_wp2_with fail
          refine (far_any _ _).mono ?_; rintro e w1 ⟨rfl, rfl⟩
          go_wp2_with fail
          go_ret
          exact ⟨ret_bool (by unfold overM; rw [HA.out, HQ.out, HV.out]; rfl), HB.out⟩

/-- what referred returns, if the movement's number leads to place i of the past -/
def refV (gp i : Nat) (q : Int) (ps : List Pst) : Value :=
  if ps.length ≤ i then .tuple #[.pointer none, .int .i64 28] else if wrap64 ((ps.getD i zPst).qty - (ps.getD i zPst).used) < q then .tuple #[.pointer none, .int .i64 21] else .tuple #[.pointer (some ⟨gp, i * 7, none⟩), .int .i64 0]
theorem ret_val {v v' : Value} (h : v = v') : Ending.returned v = .returned v' := by rw [h]

set_option maxRecDepth 100000 in
set_option maxHeartbeats 2000000 in
theorem referred_any (gx gl gp cl cp : Nat) (s : Stk) (m : Mov) (c : Cst) (kl kp : Array Value) (kd : Int) (w : World) (h : St w gx gl gp cl cp s m c kl kp) (hn : s.psts.length ≤ 1000) :
    Calls Tryd.prog 59 #[.pointer (some ⟨gx, 0, none⟩), .int .i64 kd] w fun e w' => e = .returned (refV gp (findM kd m.ref s.psts) m.qty s.psts) ∧ Below w.heap.size w w' := by
  have c4 : w.cell? ⟨gx, 4, none⟩ = some (sl gp s.psts.length cp) := by rw [h.x.cell]; rfl
  have c9 : w.cell? ⟨gx, 9, none⟩ = some (.int .i64 m.qty) := by rw [h.x.cell]; rfl
  have c12 : w.cell? ⟨gx, 12, none⟩ = some (.int .i64 m.ref) := by rw [h.x.cell]; rfl
  have HS := Lib.hid h; clear h
  by_cases hlt : findM kd m.ref s.psts < s.psts.length
  · obtain ⟨p0, p1, p2, p3, p4, p5, p6⟩ := HS.out.p.pst _ hlt
    have hP : pastP gp (findM kd m.ref s.psts) s.psts.length = .pointer (some ⟨gp, findM kd m.ref s.psts * 7, none⟩) := by unfold pastP; rw [if_pos hlt]
    have HPP := Lib.hid hP; clear hP
    have hpa := fun w hx hp => past_any gx gp cp s.psts kp kd m.ref w hx hp hn
    generalize findM kd m.ref s.psts = k at *
    generalize hPe : s.psts.getD k zPst = P at *
    have HE := Lib.hid hPe; clear hPe
    by_cases hd : wrap64 (P.qty - P.used) < m.qty
    · have hd' : decide (wrap64 (P.qty - P.used) < m.qty) = true := by simpa using hd
      have hd2 := hd'
      rw [← w64] at hd'
      have HD := Lib.hid hd; clear hd
      go_enter Tryd.func59, Tryd.ntmps59
      go_wp2_with fail
      refine (hpa _ c4 HS.out.p).mono ?_; rintro e w1 ⟨rfl, rfl⟩
      rw [HPP.out]
      go_wp2_with fail
      go_quiet (fail)
      go_wp2_with fail
      go_ret2
      exact ⟨ret_val (by unfold refV; rw [if_neg (by omega), HE.out, if_pos HD.out]; rfl), ⟨rfl, rfl, rfl, Nat.le_refl _, fun _ _ => rfl⟩⟩
    · have hd' : decide (wrap64 (P.qty - P.used) < m.qty) = false := by simpa using hd
      have hd2 := hd'
      rw [← w64] at hd'
      have HD := Lib.hid hd; clear hd
      go_enter Tryd.func59, Tryd.ntmps59
      go_wp2_with fail
      refine (hpa _ c4 HS.out.p).mono ?_; rintro e w1 ⟨rfl, rfl⟩
      rw [HPP.out]
      go_wp2_with fail
      go_quiet (fail)
      go_wp2_with fail
      go_ret2
      exact ⟨ret_val (by unfold refV; rw [if_neg (by omega), HE.out, if_neg (Int.not_lt.2 HD.out)]; rfl), ⟨rfl, rfl, rfl, Nat.le_refl _, fun _ _ => rfl⟩⟩
  · have hP : pastP gp (findM kd m.ref s.psts) s.psts.length = .pointer none := by unfold pastP; rw [if_neg hlt]
    have HPP := Lib.hid hP; clear hP
    go_enter Tryd.func59, Tryd.ntmps59
    go_wp2_with fail
    refine (past_any gx gp cp s.psts kp kd m.ref _ c4 HS.out.p hn).mono ?_; rintro e w1 ⟨rfl, rfl⟩
    rw [HPP.out]
    go_wp2_with fail
    go_ret2
    exact ⟨ret_val (by unfold refV; rw [if_pos (by omega)]; rfl), Below.refl _ _⟩
end Go.Proofs.YtboiipkbhbbgfaaDoor
