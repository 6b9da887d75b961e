/- The walks of the reference's Find and Known, and of unused. -/
import Derived.Test.YtboiipkbhbbgfaaDoorH2
import Derived.Test.YtboiipkbhbbgfaaDoorP4
namespace Go.Proofs.YtboiipkbhbbgfaaDoor
open Go.RowKit

theorem OwnL.below' {w w' : World} {B : Nat} {v : Value} {ls : List Lay} (h : OwnL w B v ls) (hb : Below w.heap.size w w') : OwnL w' B v ls := by
  rcases h with h | ⟨g, c, k, hv, hg, hr⟩
  · exact .inl h
  · exact .inr ⟨g, c, k, hv, hg, hr.of_blk (hr.blk.below' hb)⟩
theorem OwnP.below' {w w' : World} {B : Nat} {v : Value} {ps : List Pst} (h : OwnP w B v ps) (hb : Below w.heap.size w w') : OwnP w' B v ps := by
  rcases h with h | ⟨g, c, k, hv, hg, hr⟩
  · exact .inl h
  · exact .inr ⟨g, c, k, hv, hg, hr.of_blk (hr.blk.below' hb)⟩
theorem OwnL.mono {w : World} {B B' : Nat} {v : Value} {ls : List Lay} (h : OwnL w B v ls) (hb : B' ≤ B) : OwnL w B' v ls := by
  rcases h with h | ⟨g, c, k, hv, hg, hr⟩
  · exact .inl h
  · exact .inr ⟨g, c, k, hv, Nat.le_trans hb hg, hr⟩
theorem OwnP.mono {w : World} {B B' : Nat} {v : Value} {ps : List Pst} (h : OwnP w B v ps) (hb : B' ≤ B) : OwnP w B' v ps := by
  rcases h with h | ⟨g, c, k, hv, hg, hr⟩
  · exact .inl h
  · exact .inr ⟨g, c, k, hv, Nat.le_trans hb hg, hr⟩
/-- the block of a row that has an element -/
theorem OwnP.block {w : World} {B : Nat} {b : Option Addr} {n c : Nat} {ps : List Pst} (h : OwnP w B (.slice b n c) ps) (hn : 0 < ps.length) : ∃ g k, b = some ⟨g, 0, none⟩ ∧ n = ps.length ∧ B ≤ g ∧ PRow w g c ps k := by
  rcases h with ⟨_, rfl⟩ | ⟨g, c', k, hv, hg, hr⟩
  · simp at hn
  · injection hv with h1 h2 h3
    subst h1 h2 h3
    exact ⟨g, k, rfl, rfl, hg, hr⟩
theorem OwnL.block {w : World} {B : Nat} {b : Option Addr} {n c : Nat} {ps : List Lay} (h : OwnL w B (.slice b n c) ps) (hn : 0 < ps.length) : ∃ g k, b = some ⟨g, 0, none⟩ ∧ n = ps.length ∧ B ≤ g ∧ LRow w g c ps k := by
  rcases h with ⟨_, rfl⟩ | ⟨g, c', k, hv, hg, hr⟩
  · simp at hn
  · injection hv with h1 h2 h3
    subst h1 h2 h3
    exact ⟨g, k, rfl, rfl, hg, hr⟩

/-- the index of the first movement of a kind with a number, or -1 -/
def findI (kd sq : Int) (ps : List Pst) : Int := if findM kd sq ps < ps.length then findM kd sq ps else -1

set_option maxRecDepth 100000 in
set_option maxHeartbeats 2000000 in
theorem find_any (q v p : Int) (bl : Option Addr) (nl cl : Nat) (bp : Option Addr) (cp : Nat) (ps : List Pst) (kd sq : Int) (w : World) (hk0 : ¬ kd = 0) (hp : OwnP w 0 (.slice bp ps.length cp) ps) (hn : ps.length ≤ 1000) :
    Calls Tryd.prog 68 #[.agg (stkA q v p (.slice bl nl cl) (.slice bp ps.length cp)), .int .i64 kd, .int .i64 sq] w fun e w' => e = .returned (.int .i64 (findI kd sq ps)) ∧ Below w.heap.size w w' := by
  have HK0 := Lib.hid hk0; clear hk0
  have HP := Lib.hid (hp.below' ((Below.refl _ _).alloc (Nat.le_refl _) (.cells (stkA q v p (.slice bl nl cl) (.slice bp ps.length cp)) 32))); clear hp
  go_enter Tryd.func68, Tryd.ntmps68
  go_wp2
  go_loop [7] (fun i => ∃ k : Nat, k ≤ findM kd sq ps ∧ i = .int .i64 k) (fun i => ps.length - (intOf i).toNat)
  case atStart => exact ⟨0, Nat.zero_le _, rfl⟩
  case round =>
    obtain ⟨k, hk, rfl⟩ := hrel
    have hle := find_le kd sq ps
    by_cases hlt : k < ps.length
    · obtain ⟨g, kc, rfl, -, -, hr⟩ := HP.out.block (by omega)
      obtain ⟨c0, c1, -⟩ := hr.pst k hlt
      obtain ⟨f1, f2⟩ := find_step kd sq ps k hlt hk
      generalize ps.getD k zPst = P at *
      have F1 := Lib.hid f1
      have F2 := Lib.hid f2
      clear f1 f2 hr
      by_cases h2 : P.kind = kd
      · have h2' : (P.kind == kd) = true := by simpa using h2
        have H2 := Lib.hid h2; clear h2
        by_cases h1 : P.seq = sq
        · have h1' : (P.seq == sq) = true := by simpa using h1
          have H1 := Lib.hid h1; clear h1
          go_wp2
          go_ret
          have hf := F1.out ⟨H1.out, Or.inr H2.out⟩
          exact ⟨by unfold findI; rw [hf, if_pos hlt]; rfl, (Below.refl _ _).alloc (Nat.le_refl _) _⟩
        · have h1' : (P.seq == sq) = false := by simpa using h1
          have H1 := Lib.hid h1; clear h1
          go_wp2
          go_round
          case rel => exact ⟨k + 1, F2.out (fun hh => H1.out hh.1), by go_num⟩
          case measure => simp [intOf]; omega
      · have h2' : (P.kind == kd) = false := by simpa using h2
        have H2 := Lib.hid h2; clear h2
        go_wp2
        go_round
        case rel => exact ⟨k + 1, F2.out (fun hh => hh.2.elim HK0.out H2.out), by go_num⟩
        case measure => simp [intOf]; omega
    · go_wp2
      go_ret
      exact ⟨by unfold findI; rw [if_neg (by omega)]; rfl, (Below.refl _ _).alloc (Nat.le_refl _) _⟩
theorem findI_known (kd sq : Int) (ps : List Pst) : decide (0 ≤ findI kd sq ps) = decide (findM kd sq ps < ps.length) := by
  unfold findI
  split
  · rename_i h; simp [h]
  · rename_i h; simp [h]

set_option maxRecDepth 100000 in
set_option maxHeartbeats 2000000 in
theorem known_any (q v p : Int) (bl : Option Addr) (nl cl : Nat) (bp : Option Addr) (cp : Nat) (ps : List Pst) (sq : Int) (w : World) (hp : OwnP w 0 (.slice bp ps.length cp) ps) (hn : ps.length ≤ 1000) :
    Calls Tryd.prog 38 #[.agg (stkA q v p (.slice bl nl cl) (.slice bp ps.length cp)), .int .i64 sq] w fun e w' => e = .returned (.bool (knownM ps sq)) ∧ Below w.heap.size w w' := by
  have hf := fun kd w' h0 h1 => find_any q v p bl nl cl bp cp ps kd sq w' h0 h1 hn
  have k1 := findI_known 1 sq ps
  have k2 := findI_known 2 sq ps
  have HW := Lib.hid (show knownM ps sq = (decide (0 ≤ findI 1 sq ps) || decide (0 ≤ findI 2 sq ps)) by unfold knownM; rw [k1, k2])
  have hA : Below w.heap.size w (w.alloc (.cells (stkA q v p (.slice bl nl cl) (.slice bp ps.length cp)) 32)) := (Below.refl _ _).alloc (Nat.le_refl _) _
  have HP := Lib.hid (hp.below' hA); clear hp k1 k2
  have lw : w.heap.size < (w.alloc (.cells (stkA q v p (.slice bl nl cl) (.slice bp ps.length cp)) 32)).heap.size := by simp
  have hK : Blk (w.alloc (.cells (stkA q v p (.slice bl nl cl) (.slice bp ps.length cp)) 32)) w.heap.size 32 (stkA q v p (.slice bl nl cl) (.slice bp ps.length cp)) := Blk.new _ _ _
  have HK := Lib.hid hK; have HA := Lib.hid hA; clear hK hA
  go_enter Tryd.func38, Tryd.ntmps38
  go_wp2_with fail
  refine (hf 1 _ (by decide) HP.out).mono ?_
  rintro e w1 ⟨rfl, hb1⟩
  by_cases h1 : decide (0 ≤ findI 1 sq ps) = true
  · have HB := Lib.hid (HA.out.trans (hb1.mono (Nat.le_of_lt lw))); clear hb1 hf
    go_wp2_with fail
    go_ret
    exact ⟨by rw [HW.out, h1]; rfl, HB.out⟩
  · have h1' : decide (0 ≤ findI 1 sq ps) = false := by simpa using h1
    have hk1 := HK.out.below' hb1
    have z0 : w1.cell? ⟨w.heap.size, 0, none⟩ = some (.int .i64 q) := by rw [hk1.cell]; rfl
    have z1 : w1.cell? ⟨w.heap.size, 1, none⟩ = some (.int .i64 v) := by rw [hk1.cell]; rfl
    have z2 : w1.cell? ⟨w.heap.size, 2, none⟩ = some (.int .i64 p) := by rw [hk1.cell]; rfl
    have z3 : w1.cell? ⟨w.heap.size, 3, none⟩ = some (.slice bl nl cl) := by rw [hk1.cell]; rfl
    have z4 : w1.cell? ⟨w.heap.size, 4, none⟩ = some (.slice bp ps.length cp) := by rw [hk1.cell]; rfl
    have HB1 := Lib.hid hb1; clear hb1 hk1 h1
    go_wp2_with fail
    refine (hf 2 _ (by decide) (HP.out.below' HB1.out)).mono ?_
    rintro e w2 ⟨rfl, hb2⟩
    have HB := Lib.hid (HA.out.trans ((HB1.out.trans (hb2.mono HB1.out.size)).mono (Nat.le_of_lt lw))); clear hb2 hf
    go_wp2_with fail
    go_ret
    exact ⟨by rw [HW.out, h1']; simp, HB.out⟩
end Go.Proofs.YtboiipkbhbbgfaaDoor
