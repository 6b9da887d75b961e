/- The plain laws of fifo: parts of a value, sums of layers. No program in sight. -/
import Derived.Test.YtboiipkbhbbgfaaDoorF0
namespace Go.Proofs.YtboiipkbhbbgfaaDoor
open Go.RowKit

theorem w_id (n : Int) (h0 : -9223372036854775808 ≤ n) (h1 : n ≤ 9223372036854775807) : wrap64 n = n := by unfold wrap64; omega

/-- a rounded quotient of numbers that are not negative, without an error -/
theorem md_pos (a b c : Int) (ha : 0 ≤ a) (hb : 0 ≤ b) (hc : 0 < c) : 0 ≤ (mulDivM a b c 4).1 ∧ (mulDivM a b c 4).1 ≤ a * b / c + (if a * b % c = 0 then 0 else 1) := by
  have hm : ∀ n : Int, 0 ≤ n → magM n = n := fun n h => by unfold magM; rw [if_neg (by omega)]
  have hab : 0 ≤ a * b := Int.mul_nonneg ha hb
  have hq : 0 ≤ a * b / c := Int.ediv_nonneg hab (by omega)
  unfold mulDivM
  rw [if_neg (by omega), if_neg (by omega), hm a ha, hm b hb, hm c (by omega)]
  have hn : negM a b c = false := by
    unfold negM
    rw [show decide (a < 0) = false by simpa using ha, show decide (b < 0) = false by simpa using hb, show decide (c < 0) = false by simp; omega]
    simp
  rw [hn]
  unfold mdEnd
  split
  · refine ⟨Int.le_refl _, ?_⟩
    split <;> simp <;> omega
  · split
    · rename_i haw
      have hr : ¬ a * b % c = 0 := by
        intro h0
        rw [h0] at haw
        simp [awayM] at haw
      rw [if_neg hr]
      split
      · simp; omega
      · unfold signedM
        simp only [Bool.false_eq_true, if_false]
        split <;> simp <;> omega
    · unfold signedM
      simp only [Bool.false_eq_true, if_false]
      split
      · simp; split <;> omega
      · simp; split <;> omega

theorem part_bd (v q n : Int) (hv : 0 ≤ v) (hq : 0 ≤ q) (hqn : q ≤ n) (hn : 0 < n) : 0 ≤ partM v q n ∧ partM v q n ≤ v := by
  unfold partM
  split
  · exact ⟨hv, Int.le_refl _⟩
  · obtain ⟨h0, h1⟩ := md_pos v q n hv hq hn
    refine ⟨h0, Int.le_trans h1 ?_⟩
    have hle : v * q ≤ v * n := Int.mul_le_mul_of_nonneg_left hqn hv
    have hd := Int.mul_ediv_add_emod (v * q) n
    have hr := Int.emod_nonneg (v * q) (b := n) (by omega)
    split
    · rename_i h
      have h2 : n * (v * q / n) ≤ n * v := by rw [Int.mul_comm n v]; omega
      have := Int.le_of_mul_le_mul_left h2 hn
      omega
    · rename_i h
      have h2 : n * (v * q / n) < n * v := by rw [Int.mul_comm n v]; omega
      have := Int.lt_of_mul_lt_mul_left h2 (by omega)
      omega

def sumQ : List Lay → Int
  | [] => 0
  | l :: ls => l.qty + sumQ ls
def sumV : List Lay → Int
  | [] => 0
  | l :: ls => l.val + sumV ls
theorem sumQ_append (a b : List Lay) : sumQ (a ++ b) = sumQ a + sumQ b := by
  induction a with
  | nil => simp [sumQ]
  | cons l a ih => simp only [List.cons_append, sumQ, ih]; omega
theorem sumV_append (a b : List Lay) : sumV (a ++ b) = sumV a + sumV b := by
  induction a with
  | nil => simp [sumV]
  | cons l a ih => simp only [List.cons_append, sumV, ih]; omega

/-- a layer as a state has it -/
def GL (l : Lay) : Prop := 1 ≤ l.qty ∧ 0 ≤ l.val
/-- a movement of the past as a state has it -/
def GP (p : Pst) : Prop := (p.kind = 1 ∨ p.kind = 2) ∧ 1 ≤ p.qty ∧ p.qty ≤ 1000000000 ∧ 0 ≤ p.used ∧ p.used ≤ p.qty ∧ 0 ≤ p.uval ∧ p.uval ≤ p.val ∧ p.val ≤ 1000000000000000
/-- a state as Step leaves it -/
structure Good (s : Stk) : Prop where
  q : s.qty = sumQ s.lays
  v : s.val = sumV s.lays
  qb : s.qty ≤ 1000000000
  vb : s.val ≤ 1000000000000000
  l : ∀ l ∈ s.lays, GL l
  p : ∀ p ∈ s.psts, GP p
  pr : s.price = 0
theorem sumQ_nn : ∀ (ls : List Lay), (∀ l ∈ ls, GL l) → 0 ≤ sumQ ls ∧ (∀ l ∈ ls, l.qty ≤ sumQ ls) ∧ (ls.length : Int) ≤ sumQ ls
  | [], _ => by simp [sumQ]
  | l :: ls, h => by
    obtain ⟨h1, h2, h3⟩ := sumQ_nn ls fun l hl => h l (by simp [hl])
    have h0 := (h l (by simp)).1
    simp only [sumQ, List.mem_cons, List.length_cons]
    refine ⟨by omega, ?_, by omega⟩
    rintro x (rfl | hx)
    · omega
    · have := h2 x hx; omega
theorem sumV_nn : ∀ (ls : List Lay), (∀ l ∈ ls, GL l) → 0 ≤ sumV ls ∧ (∀ l ∈ ls, l.val ≤ sumV ls)
  | [], _ => by simp [sumV]
  | l :: ls, h => by
    obtain ⟨h1, h2⟩ := sumV_nn ls fun l hl => h l (by simp [hl])
    have h0 := (h l (by simp)).2
    simp only [sumV, List.mem_cons]
    refine ⟨by omega, ?_⟩
    rintro x (rfl | hx)
    · omega
    · have := h2 x hx; omega
theorem Good.zero : Good zStk := ⟨rfl, rfl, by decide, by decide, by simp [zStk], by simp [zStk], rfl⟩
theorem Good.nn {s : Stk} (h : Good s) : 0 ≤ s.qty ∧ 0 ≤ s.val := by rw [h.q, h.v]; exact ⟨(sumQ_nn _ h.l).1, (sumV_nn _ h.l).1⟩
theorem Good.lay {s : Stk} (h : Good s) {l : Lay} (hl : l ∈ s.lays) : 1 ≤ l.qty ∧ l.qty ≤ 1000000000 ∧ 0 ≤ l.val ∧ l.val ≤ 1000000000000000 := by
  have h1 := (sumQ_nn _ h.l).2.1 l hl
  have h2 := (sumV_nn _ h.l).2 l hl
  have h3 := h.l l hl
  have := h.q; have := h.v; have := h.qb; have := h.vb
  exact ⟨h3.1, by omega, h3.2, by omega⟩

/-- an issue of what there is: the first layers whole, then a part of the next -/
theorem issue_split : ∀ (ls : List Lay) (left v : Int), (∀ l ∈ ls, GL l) → 0 ≤ left → left ≤ sumQ ls → left ≤ 1000000000 → 0 ≤ v → v + sumV ls ≤ 1000000000000000 →
    ∃ pre rest, ls = pre ++ rest ∧ ((left = sumQ pre ∧ issueM ls left v = (v + sumV pre, rest)) ∨
      ∃ l r d p, rest = l :: r ∧ left = sumQ pre + d ∧ 0 < d ∧ d < l.qty ∧ p = partM l.val d l.qty ∧ 0 ≤ p ∧ p ≤ l.val ∧ issueM ls left v = (v + sumV pre + p, { l with qty := l.qty - d, val := l.val - p } :: r))
  | [], left, v, _, h0, h1, _, _, _ => ⟨[], [], rfl, .inl ⟨by simp [sumQ] at *; omega, by simp [issueM, sumV]⟩⟩
  | l :: ls, left, v, hg, h0, h1, h2, h3, h4 => by
    have hl := hg l (by simp)
    have hvs := sumV_nn ls fun l hl => hg l (by simp [hl])
    have hqs := sumQ_nn ls fun l hl => hg l (by simp [hl])
    simp only [sumQ, sumV] at h1 h4
    have hlq := hl.1
    have hlv := hl.2
    have hvs1 := hvs.1
    unfold issueM
    by_cases hz : left ≤ 0
    · rw [if_pos hz]
      exact ⟨[], l :: ls, rfl, .inl ⟨by simp [sumQ]; omega, by simp [sumV]⟩⟩
    · rw [if_neg hz]
      by_cases hle : l.qty ≤ left
      · rw [if_pos hle, w_id _ (by omega) (by omega), w_id _ (by omega) (by omega)]
        obtain ⟨pre, rest, rfl, hr⟩ := issue_split ls (left - l.qty) (v + l.val) (fun l hl => hg l (by simp [hl])) (by omega) (by omega) (by omega) (by omega) (by omega)
        refine ⟨l :: pre, rest, rfl, ?_⟩
        rcases hr with ⟨e1, e2⟩ | ⟨l2, r, d, p, e0, e1, hd0, hd1, hp, hp0, hp1, e2⟩
        · exact .inl ⟨by simp only [sumQ]; omega, by rw [e2]; simp only [sumV, Prod.mk.injEq, and_true]; omega⟩
        · exact .inr ⟨l2, r, d, p, e0, by simp only [sumQ]; omega, hd0, hd1, hp, hp0, hp1, by rw [e2]; simp only [sumV, Prod.mk.injEq, and_true]; omega⟩
      · rw [if_neg hle]
        obtain ⟨hp0, hp1⟩ := part_bd l.val left l.qty hlv h0 (by omega) (by omega)
        refine ⟨[], l :: ls, rfl, .inr ⟨l, ls, left, _, rfl, by simp [sumQ], by omega, by omega, rfl, hp0, hp1, ?_⟩⟩
        rw [w_id _ (by omega) (by omega), w_id _ (by omega) (by omega)]
        simp [sumV]
end Go.Proofs.YtboiipkbhbbgfaaDoor
