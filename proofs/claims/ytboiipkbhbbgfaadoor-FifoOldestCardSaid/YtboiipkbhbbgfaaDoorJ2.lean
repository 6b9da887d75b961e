/- The walk of play: the state after the movements that succeed. -/
import Derived.Test.YtboiipkbhbbgfaaDoorJ1
import Derived.Test.YtboiipkbhbbgfaaDoorR0
namespace Go.Proofs.YtboiipkbhbbgfaaDoor
open Go.RowKit

def zMov : Mov := ⟨0, 0, ⟨#[]⟩, 0, 0, 0, ⟨#[]⟩, 0⟩
theorem movsC_get (ls : List Mov) : ∀ (i : Nat) (j : Nat), i < ls.length → j < 8 → (movsC ls)[i * 8 + j]? = (ls.getD i zMov).cs[j]? := by
  induction ls with
  | nil => intro i j hi; simp at hi
  | cons l ls ih =>
    intro i j hi hj
    simp only [movsC, List.flatMap_cons]
    cases i with
    | zero =>
      rw [List.getElem?_append_left (by simp [Mov.cs]; omega)]
      simp
    | succ i =>
      rw [List.getElem?_append_right (by simp [Mov.cs]; omega)]
      have h1 : (i + 1) * 8 + j - l.cs.length = i * 8 + j := by simp [Mov.cs]; omega
      rw [h1]
      have := ih i j (by simpa using hi) hj
      simp only [movsC] at this
      simpa using this
/-- the cells of the k-th movement of a list that came in -/
theorem mov_cells {w : World} {a : Addr} {n c : Nat} {ms : List Mov} (h : Rd w 8 (.slice (some a) n c) ms.length (movsC ms)) (k : Nat) (hk : k < ms.length) (m : Mov) (hm : ms.getD k zMov = m) :
    w.cell? (a.add (k * 8)) = some (.int .i64 m.seq) ∧ w.cell? ⟨(a.add (k * 8)).block, (a.add (k * 8)).off + 1, none⟩ = some (.int .i64 m.value) ∧ w.cell? ⟨(a.add (k * 8)).block, (a.add (k * 8)).off + 2, none⟩ = some (.string m.item) ∧ w.cell? ⟨(a.add (k * 8)).block, (a.add (k * 8)).off + 3, none⟩ = some (.int .i64 m.kind) ∧
    w.cell? ⟨(a.add (k * 8)).block, (a.add (k * 8)).off + 4, none⟩ = some (.int .i64 m.qty) ∧ w.cell? ⟨(a.add (k * 8)).block, (a.add (k * 8)).off + 5, none⟩ = some (.int .i64 m.cost) ∧ w.cell? ⟨(a.add (k * 8)).block, (a.add (k * 8)).off + 6, none⟩ = some (.string m.lot) ∧ w.cell? ⟨(a.add (k * 8)).block, (a.add (k * 8)).off + 7, none⟩ = some (.int .i64 m.ref) := by
  subst hm
  rcases h.2 with ⟨h1, h2⟩ | ⟨a', c', hv, hc⟩
  · cases h1
  · injection hv with h1 h2 h3
    injection h1 with h1
    subst h1
    have e : ∀ j, ¬ j = 0 → (⟨(a.add (k * 8)).block, (a.add (k * 8)).off + j, none⟩ : Addr) = a.add (k * 8 + j) := fun j hj => by
      rw [← Addr.add_add]
      unfold Addr.add
      rw [if_neg hj]
    rw [e 1 (by decide), e 2 (by decide), e 3 (by decide), e 4 (by decide), e 5 (by decide), e 6 (by decide), e 7 (by decide)]
    refine ⟨hc _ _ ?_, hc _ _ ?_, hc _ _ ?_, hc _ _ ?_, hc _ _ ?_, hc _ _ ?_, hc _ _ ?_, hc _ _ ?_⟩
    · exact movsC_get ms k 0 hk (by decide)
    · exact movsC_get ms k 1 hk (by decide)
    · exact movsC_get ms k 2 hk (by decide)
    · exact movsC_get ms k 3 hk (by decide)
    · exact movsC_get ms k 4 hk (by decide)
    · exact movsC_get ms k 5 hk (by decide)
    · exact movsC_get ms k 6 hk (by decide)
    · exact movsC_get ms k 7 hk (by decide)

/-- the state after the first k movements -/
def playK (ms : List Mov) (k : Nat) : Stk := playM (ms.take k) zStk
theorem playM_append (s : Stk) : ∀ (a b : List Mov), playM (a ++ b) s = playM b (playM a s)
  | [], _ => rfl
  | m :: a, b => by
    simp only [List.cons_append, playM]
    exact playM_append _ a b
theorem playK_succ (ms : List Mov) (k : Nat) (hk : k < ms.length) : playK ms (k + 1) = if (stepM (playK ms k) (ms.getD k zMov)).err = 0 then (stepM (playK ms k) (ms.getD k zMov)).stk else playK ms k := by
  unfold playK
  rw [List.take_add_one, playM_append]
  have : ms[k]?.toList = [ms.getD k zMov] := by
    rw [List.getElem?_eq_getElem hk]
    simp [List.getD, List.getElem?_eq_getElem hk]
  rw [this]
  rfl
theorem step_lays_len (s : Stk) (m : Mov) : (stepM s m).stk.lays.length ≤ s.lays.length + 1 := by
  unfold stepM
  split
  · simp [zStk]
  split
  · simp [zStk]
  simp only
  split
  · simp [zStk]
  split
  · simp [zStk]
  · exact do_len s m
theorem step_psts_len (s : Stk) (m : Mov) : (stepM s m).stk.psts.length ≤ s.psts.length + 1 := by
  unfold stepM
  split
  · simp [zStk]
  split
  · simp [zStk]
  simp only
  split
  · simp [zStk]
  split
  · simp [zStk]
  · exact out_psts s m
theorem play_len (ms : List Mov) : ∀ k, k ≤ ms.length → (playK ms k).lays.length ≤ k ∧ (playK ms k).psts.length ≤ k ∧ Good (playK ms k)
  | 0, _ => by
    have : playK ms 0 = zStk := by simp [playK, playM]
    rw [this]
    exact ⟨Nat.le_refl _, Nat.le_refl _, Good.zero⟩
  | k + 1, h => by
    obtain ⟨h1, h2, h3⟩ := play_len ms k (by omega)
    rw [playK_succ ms k (by omega)]
    split
    · rename_i he
      have a1 := step_lays_len (playK ms k) (ms.getD k zMov)
      have a2 := step_psts_len (playK ms k) (ms.getD k zMov)
      exact ⟨by omega, by omega, (step_ok _ _ h3 he).good⟩
    · exact ⟨by omega, by omega, h3⟩
theorem Good.lok {s : Stk} (h : Good s) : LaysOk s.lays := fun l hl => by
  obtain ⟨h1, h2, h3, h4⟩ := h.lay hl
  exact ⟨by unfold I64; omega, by unfold I64; omega⟩
theorem Good.pok {s : Stk} (h : Good s) : PstsOk s.psts := fun p hp => by
  obtain ⟨_, h1, h2, _⟩ := h.p p hp
  unfold I64; omega
end Go.Proofs.YtboiipkbhbbgfaaDoor
