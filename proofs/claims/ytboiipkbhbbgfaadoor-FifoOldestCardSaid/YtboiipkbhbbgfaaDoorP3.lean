/- The plain laws of fifo: numbers that are not used, issues of a stock, returns of an issue. -/
import Derived.Test.YtboiipkbhbbgfaaDoorP2
namespace Go.Proofs.YtboiipkbhbbgfaaDoor
open Go.RowKit

theorem find_lt (kind seq : Int) : ∀ (ps : List Pst), findM kind seq ps < ps.length ↔ ∃ p ∈ ps, p.seq = seq ∧ (kind = 0 ∨ p.kind = kind)
  | [] => by simp [findM]
  | p :: ps => by
    have ih := find_lt kind seq ps
    unfold findM
    split
    · rename_i h
      simp only [List.length_cons, List.mem_cons]
      exact ⟨fun _ => ⟨p, .inl rfl, h⟩, fun _ => by omega⟩
    · rename_i h
      simp only [List.length_cons, List.mem_cons]
      rw [show findM kind seq ps + 1 < ps.length + 1 ↔ findM kind seq ps < ps.length from by omega, ih]
      constructor
      · rintro ⟨x, hx, he⟩; exact ⟨x, .inr hx, he⟩
      · rintro ⟨x, rfl | hx, he⟩
        · exact absurd he h
        · exact ⟨x, hx, he⟩
/-- is a number in the past, as a receipt or as an issue? -/
def knownM (ps : List Pst) (n : Int) : Bool := decide (findM 1 n ps < ps.length) || decide (findM 2 n ps < ps.length)
theorem known_iff {ps : List Pst} (h : ∀ p ∈ ps, GP p) (n : Int) : knownM ps n = decide (findM 0 n ps < ps.length) := by
  unfold knownM
  rw [Bool.eq_iff_iff]
  simp only [Bool.or_eq_true, decide_eq_true_eq, find_lt]
  constructor
  · rintro (⟨p, hp, he, _⟩ | ⟨p, hp, he, _⟩)
    · exact ⟨p, hp, he, by simp⟩
    · exact ⟨p, hp, he, by simp⟩
  · rintro ⟨p, hp, he, _⟩
    rcases (h p hp).1 with h1 | h1
    · exact .inl ⟨p, hp, he, .inr h1⟩
    · exact .inr ⟨p, hp, he, .inr h1⟩

/-- the first number from n on that is not known, f numbers at most looked at -/
def freeM (ps : List Pst) : Nat → Nat → Nat
  | 0, n => n
  | f + 1, n => if knownM ps n then freeM ps f (n + 1) else n
def unusedM (ps : List Pst) : Nat := freeM ps ps.length 1
theorem free_spec (ps : List Pst) : ∀ (f n : Nat), n ≤ freeM ps f n ∧ freeM ps f n ≤ n + f ∧ (∀ k, n ≤ k → k < freeM ps f n → knownM ps k = true) ∧ (freeM ps f n < n + f → knownM ps (freeM ps f n) = false)
  | 0, n => by simp [freeM]; omega
  | f + 1, n => by
    unfold freeM
    split
    · rename_i h
      obtain ⟨h1, h2, h3, h4⟩ := free_spec ps f (n + 1)
      refine ⟨by omega, by omega, fun k hk1 hk2 => ?_, fun hk => h4 (by omega)⟩
      by_cases hk : k = n
      · rw [hk]; exact h
      · exact h3 k (by omega) hk2
    · rename_i h
      exact ⟨Nat.le_refl _, by omega, fun k h1 h2 => by omega, fun _ => by simpa using h⟩
theorem pigeon : ∀ (N : Nat) (ps : List Pst), (∀ k : Nat, 1 ≤ k → k ≤ N → ∃ p ∈ ps, p.seq = k) → N ≤ ps.length
  | 0, ps, _ => by omega
  | N + 1, ps, h => by
    obtain ⟨p, hp, he⟩ := h (N + 1) (by omega) (by omega)
    obtain ⟨a, b, rfl⟩ := List.append_of_mem hp
    have := pigeon N (a ++ b) fun k h1 h2 => by
      obtain ⟨q, hq, hqe⟩ := h k h1 (by omega)
      refine ⟨q, ?_, hqe⟩
      simp only [List.mem_append, List.mem_cons] at hq ⊢
      rcases hq with hq | rfl | hq
      · exact .inl hq
      · rw [he] at hqe; omega
      · exact .inr hq
    simp only [List.length_append, List.length_cons] at *
    omega
theorem unused_spec {ps : List Pst} (h : ∀ p ∈ ps, GP p) : 1 ≤ unusedM ps ∧ unusedM ps ≤ ps.length + 1 ∧ ¬ findM 0 (unusedM ps) ps < ps.length := by
  obtain ⟨h1, h2, h3, h4⟩ := free_spec ps ps.length 1
  unfold unusedM
  refine ⟨h1, by omega, ?_⟩
  by_cases hlt : freeM ps ps.length 1 < 1 + ps.length
  · have := h4 hlt
    rw [known_iff h] at this
    simpa using this
  · intro hf
    have hall : ∀ k : Nat, 1 ≤ k → k ≤ ps.length + 1 → ∃ p ∈ ps, p.seq = k := by
      intro k k1 k2
      by_cases hk : k = freeM ps ps.length 1
      · obtain ⟨p, hp, he, _⟩ := (find_lt 0 _ ps).1 hf
        exact ⟨p, hp, by rw [he, hk]⟩
      · have := h3 k k1 (by omega)
        rw [known_iff h] at this
        obtain ⟨p, hp, he, _⟩ := (find_lt 0 _ ps).1 (by simpa using this)
        exact ⟨p, hp, he⟩
    have := pigeon _ ps hall
    omega

/-- an issue -/
abbrev issueMov (n q : Int) : Mov := ⟨n, 0, ⟨#[120]⟩, 2, q, 0, ⟨#[]⟩, 0⟩
/-- a customer's return -/
abbrev backMov (m q n : Int) : Mov := ⟨m, 0, ⟨#[120]⟩, 3, q, 0, ⟨#[]⟩, n⟩
theorem code_x : codeB ⟨#[120]⟩ = true := by kernel_rfl
theorem one_issue (n q : Int) : oneM (issueMov n q) = if 1 ≤ q ∧ q ≤ 1000000000 then 0 else 3 := by
  unfold oneM
  simp only [code_x]
  rw [if_neg (by decide), if_neg (by decide), if_neg (by decide)]
  have hc : costB (issueMov n q) = true := by unfold costB; simp
  have hl : lotB (issueMov n q) = true := rfl
  have hr : refBad (issueMov n q) = false := by unfold refBad refersB; simp
  have hqq : qtyB (issueMov n q) = (decide (1 ≤ q) && decide (q ≤ 1000000000)) := by unfold qtyB inB; rw [if_neg (by simp)]
  rw [hc, hl, hr, hqq]
  by_cases h : 1 ≤ q ∧ q ≤ 1000000000
  · rw [if_pos h, if_neg (by simp; omega), if_neg (by simp), if_neg (by simp)]
  · rw [if_neg h, if_pos (by simp; omega)]
theorem one_back (m q n : Int) (hq : 1 ≤ q ∧ q ≤ 1000000000) (hn : 1 ≤ n) : oneM (backMov m q n) = 0 := by
  unfold oneM
  simp only [code_x]
  rw [if_neg (by decide), if_neg (by decide), if_neg (by decide)]
  have hc : costB (backMov m q n) = true := by unfold costB; simp
  have hl : lotB (backMov m q n) = true := rfl
  have hr : refBad (backMov m q n) = false := by unfold refBad refersB; simp; omega
  have hqq : qtyB (backMov m q n) = (decide (1 ≤ q) && decide (q ≤ 1000000000)) := by unfold qtyB inB; rw [if_neg (by simp)]
  rw [hc, hl, hr, hqq, if_neg (by simp; omega), if_neg (by simp), if_neg (by simp)]

theorem over_no {ls : List Lay} {q v r : Int} (h0 : ∀ l ∈ ls, GL l) (hs : sumV ls ≤ 1000000000000000) (hq : q ≤ 1000000000) (hv : 0 ≤ v ∧ v ≤ 1000000000000000) (hr : r = 0) : overM ls q v r = false := by
  unfold overM
  simp only [Bool.or_eq_false_iff, List.any_eq_false, decide_eq_false_iff_not, Int.not_lt]
  have hn := sumV_nn ls h0
  refine ⟨⟨⟨fun l hl => ?_, hq⟩, far_no (by omega) hv.2⟩, far_no (by omega) (by omega)⟩
  have := hn.2 l hl
  have := (h0 l hl).2
  simp [far_no (n := l.val) (by omega) (by omega)]

/-- an issue with a new number: the error, or the split of the layers -/
theorem issue_law {s : Stk} (hs : Good s) {n q : Int} (hn : ¬ findM 0 n s.psts < s.psts.length) :
    ((stepM s (issueMov n q)).err = 0 ∧ 1 ≤ q ∧ q ≤ s.qty ∧
      ∃ pre rest lays' sum, s.lays = pre ++ rest ∧ stepM s (issueMov n q) = ⟨0, ⟨s.qty - q, s.val - sum, 0, lays', s.psts ++ [⟨n, 2, ⟨#[]⟩, q, sum, 0, 0⟩]⟩, ⟨n, -q, -sum, 0⟩⟩ ∧ 0 ≤ sum ∧ sum ≤ s.val ∧
        ((q = sumQ pre ∧ sum = sumV pre ∧ lays' = rest) ∨ ∃ l r d p, rest = l :: r ∧ q = sumQ pre + d ∧ 0 < d ∧ d < l.qty ∧ 0 ≤ p ∧ p ≤ l.val ∧ sum = sumV pre + p ∧ lays' = { l with qty := l.qty - d, val := l.val - p } :: r)) ∨
    (¬ (stepM s (issueMov n q)).err = 0 ∧ (¬ (1 ≤ q ∧ q ≤ 1000000000) ∨ (stepM s (issueMov n q)).err = 21 ∧ s.qty < q)) := by
  by_cases hq : 1 ≤ q ∧ q ≤ 1000000000
  · have h1 : oneM (issueMov n q) = 0 := by rw [one_issue, if_pos hq]
    have hst : stepM s (issueMov n q) = (let o := issueStepM s (issueMov n q)
      if ¬ o.err = 0 then ⟨o.err, zStk, zCst⟩ else
      if overM o.lays (wrap64 (s.qty + o.cst.qty)) (wrap64 (s.val + o.cst.val)) o.cst.var then ⟨4, zStk, zCst⟩ else ⟨0, ⟨wrap64 (s.qty + o.cst.qty), wrap64 (s.val + o.cst.val), s.price, o.lays, o.psts⟩, o.cst⟩) := by
      unfold stepM
      rw [if_neg (by rw [h1]; simp), if_neg hn]
      rfl
    by_cases hlt : s.qty < q
    · refine .inr ?_
      have ho : issueStepM s (issueMov n q) = bad 21 s (issueMov n q) := by unfold issueStepM; rw [if_pos hlt]
      rw [hst, ho]
      exact ⟨by simp [bad], .inr ⟨by simp [bad], hlt⟩⟩
    · refine .inl ?_
      have hnn := hs.nn
      have hqs := hs.q
      have hvs := hs.v
      have hvb := hs.vb
      have hqb := hs.qb
      obtain ⟨pre, rest, hsp, hr⟩ := issue_split s.lays q 0 hs.l (by omega) (by omega) (by omega) (by omega) (by omega)
      have hpre : ∀ l ∈ pre, GL l := fun l hl => hs.l l (by rw [hsp]; simp [hl])
      have hrest : ∀ l ∈ rest, GL l := fun l hl => hs.l l (by rw [hsp]; simp [hl])
      have hp0 := sumV_nn pre hpre
      have hr0 := sumV_nn rest hrest
      have eq2 : sumV s.lays = sumV pre + sumV rest := by rw [hsp, sumV_append]
      rcases hr with ⟨e1, e2⟩ | ⟨l, r, d, p, e0, e1, hd0, hd1, hp, hpp, hpv, e2⟩
      · have ho : issueStepM s (issueMov n q) = ⟨0, rest, s.psts ++ [⟨n, 2, ⟨#[]⟩, q, sumV pre, 0, 0⟩], ⟨n, -q, -sumV pre, 0⟩⟩ := by
          unfold issueStepM
          rw [if_neg hlt]
          simp only
          rw [e2, w_id _ (by omega) (by omega), w_id _ (by simp only; omega) (by simp only; omega)]
          simp
        have hov : overM rest (s.qty + -q) (s.val + -sumV pre) 0 = false := over_no hrest (by omega) (by omega) (by omega) rfl
        have hfin : stepM s (issueMov n q) = ⟨0, ⟨s.qty - q, s.val - sumV pre, 0, rest, s.psts ++ [⟨n, 2, ⟨#[]⟩, q, sumV pre, 0, 0⟩]⟩, ⟨n, -q, -sumV pre, 0⟩⟩ := by
          rw [hst, ho]
          simp only
          rw [if_neg (by simp), w_id _ (by omega) (by omega), w_id _ (by omega) (by omega), hov, if_neg (by simp), hs.pr]
          simp only [Int.sub_eq_add_neg]
        refine ⟨by rw [hfin], hq.1, by omega, pre, rest, rest, sumV pre, hsp, hfin, hp0.1, by omega, .inl ⟨e1, rfl, rfl⟩⟩
      · subst e0
        simp only [sumV] at eq2
        have hr1 := sumV_nn r fun l hl => hrest l (by simp [hl])
        have hlq := hrest l (by simp)
        have ho : issueStepM s (issueMov n q) = ⟨0, { l with qty := l.qty - d, val := l.val - p } :: r, s.psts ++ [⟨n, 2, ⟨#[]⟩, q, sumV pre + p, 0, 0⟩], ⟨n, -q, -(sumV pre + p), 0⟩⟩ := by
          unfold issueStepM
          rw [if_neg hlt]
          simp only
          rw [e2, w_id _ (by omega) (by omega), w_id _ (by simp only; omega) (by simp only; omega)]
          simp
        have hgl : ∀ x ∈ ({ l with qty := l.qty - d, val := l.val - p } :: r : List Lay), GL x := by
          intro x hx
          rcases List.mem_cons.1 hx with rfl | hx
          · exact ⟨by simp only; omega, by simp only; omega⟩
          · exact hrest x (by simp [hx])
        have hov : overM ({ l with qty := l.qty - d, val := l.val - p } :: r) (s.qty + -q) (s.val + -(sumV pre + p)) 0 = false := over_no hgl (by simp only [sumV]; omega) (by omega) (by omega) rfl
        have hfin : stepM s (issueMov n q) = ⟨0, ⟨s.qty - q, s.val - (sumV pre + p), 0, { l with qty := l.qty - d, val := l.val - p } :: r, s.psts ++ [⟨n, 2, ⟨#[]⟩, q, sumV pre + p, 0, 0⟩]⟩, ⟨n, -q, -(sumV pre + p), 0⟩⟩ := by
          rw [hst, ho]
          simp only
          rw [if_neg (by simp), w_id _ (by omega) (by omega), w_id _ (by omega) (by omega), hov, if_neg (by simp), hs.pr]
          simp only [Int.sub_eq_add_neg]
        refine ⟨by rw [hfin], hq.1, by omega, pre, l :: r, _, sumV pre + p, hsp, hfin, by omega, by omega, .inr ⟨l, r, d, p, rfl, e1, hd0, hd1, hpp, hpv, rfl, rfl⟩⟩
  · refine .inr ?_
    have h1 : oneM (issueMov n q) = 3 := by rw [one_issue, if_neg hq]
    have hst : stepM s (issueMov n q) = ⟨3, zStk, zCst⟩ := by
      unfold stepM
      rw [if_pos (by rw [h1]; decide), h1]
    rw [hst]
    exact ⟨by decide, .inl hq⟩
end Go.Proofs.YtboiipkbhbbgfaaDoor
