/- The walks of fifo's searches: past, layer. -/
import Derived.Test.YtboiipkbhbbgfaaDoorF1
namespace Go.Proofs.YtboiipkbhbbgfaaDoor
open Go.RowKit

theorem find_le (kd sq : Int) : ∀ ps : List Pst, findM kd sq ps ≤ ps.length
  | [] => Nat.le_refl _
  | p :: ps => by unfold findM; split <;> simp [find_le kd sq ps]
theorem find_step (kd sq : Int) : ∀ (ps : List Pst) (k : Nat), k < ps.length → k ≤ findM kd sq ps →
    (((ps.getD k zPst).seq = sq ∧ (kd = 0 ∨ (ps.getD k zPst).kind = kd)) → findM kd sq ps = k) ∧ (¬ ((ps.getD k zPst).seq = sq ∧ (kd = 0 ∨ (ps.getD k zPst).kind = kd)) → k + 1 ≤ findM kd sq ps)
  | [], k, h, _ => by simp at h
  | p :: ps, 0, _, _ => by
    constructor
    · intro h; simp at h; simp [findM, h]
    · intro h; simp at h; unfold findM; rw [if_neg (by simpa using h)]; omega
  | p :: ps, k + 1, h, hk => by
    have hn : ¬ (p.seq = sq ∧ (kd = 0 ∨ p.kind = kd)) := by
      intro hh
      unfold findM at hk
      rw [if_pos hh] at hk
      omega
    have he : findM kd sq (p :: ps) = findM kd sq ps + 1 := by rw [findM, if_neg hn]
    rw [he] at hk ⊢
    have := find_step kd sq ps k (by simpa using h) (by omega)
    simp only [List.getD_cons_succ]
    constructor
    · intro hh; rw [this.1 hh]
    · intro hh; have := this.2 hh; omega

/-- the address of the past's i-th movement, or nil -/
def pastP (gp i n : Nat) : Value := if i < n then .pointer (some ⟨gp, i * 7, none⟩) else .pointer none

set_option maxRecDepth 100000 in
set_option maxHeartbeats 2000000 in
theorem past_any (gx gp cp : Nat) (ps : List Pst) (kp : Array Value) (kd sq : Int) (w : World) (hx : w.cell? ⟨gx, 4, none⟩ = some (sl gp ps.length cp)) (hp : PRow w gp cp ps kp) (hn : ps.length ≤ 1000) :
    Calls Tryd.prog 29 #[.pointer (some ⟨gx, 0, none⟩), .int .i64 kd, .int .i64 sq] w fun e w' => e = .returned (pastP gp (findM kd sq ps) ps.length) ∧ w = w' := by
  have HP := Lib.hid hp; clear hp
  go_enter Tryd.func29, Tryd.ntmps29
  go_wp2
  go_loop [15] (fun i => ∃ k : Nat, k ≤ findM kd sq ps ∧ i = .int .i64 k) (fun i => ps.length - (intOf i).toNat)
  case atStart => exact ⟨0, Nat.zero_le _, rfl⟩
  case round =>
    obtain ⟨k, hk, rfl⟩ := hrel
    have hle := find_le kd sq ps
    by_cases hlt : k < ps.length
    · obtain ⟨c0, c1, -⟩ := HP.out.pst k hlt
      obtain ⟨f1, f2⟩ := find_step kd sq ps k hlt hk
      generalize ps.getD k zPst = P at *
      have F1 := Lib.hid f1
      have F2 := Lib.hid f2
      clear f1 f2
      by_cases h1 : P.seq = sq
      · have h1' : (P.seq == sq) = true := by simpa using h1
        have H1 := Lib.hid h1; clear h1
        by_cases h0 : kd = 0
        · have h0' : (kd == 0) = true := by simpa using h0
          have H0 := Lib.hid h0; clear h0
          go_wp2
          go_ret
          have hf := F1.out ⟨H1.out, Or.inl H0.out⟩
          exact ⟨by rw [hf]; unfold pastP; rw [if_pos hlt]; rfl, rfl⟩
        · have h0' : (kd == 0) = false := by simpa using h0
          have H0 := Lib.hid h0; clear h0
          by_cases h2 : P.kind = kd
          · have h2' : (P.kind == kd) = true := by simpa using h2
            have H2 := Lib.hid h2; clear h2
            go_wp2
            go_ret
            have hf := F1.out ⟨H1.out, Or.inr H2.out⟩
            exact ⟨by rw [hf]; unfold pastP; rw [if_pos hlt]; rfl, rfl⟩
          · have h2' : (P.kind == kd) = false := by simpa using h2
            have H2 := Lib.hid h2; clear h2
            go_wp2
            go_round
            case rel => exact ⟨k + 1, F2.out (fun hh => hh.2.elim H0.out H2.out), by go_num⟩
            case measure => simp [intOf]; omega
      · have h1' : (P.seq == sq) = false := by simpa using h1
        have H1 := Lib.hid h1; clear h1
        go_wp2
        go_round
        case rel => exact ⟨k + 1, F2.out (fun hh => H1.out hh.1), by go_num⟩
        case measure => simp [intOf]; omega
    · go_wp2
      go_ret
      exact ⟨by unfold pastP; rw [if_neg (by omega)]; rfl, rfl⟩
end Go.Proofs.YtboiipkbhbbgfaaDoor
