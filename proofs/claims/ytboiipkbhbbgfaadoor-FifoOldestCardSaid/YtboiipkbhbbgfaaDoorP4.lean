/- The plain laws of fifo: emptying, undoing, and what is played. -/
import Derived.Test.YtboiipkbhbbgfaaDoorP3
namespace Go.Proofs.YtboiipkbhbbgfaaDoor
open Go.RowKit

/-- what FifoEmpty asks -/
theorem empty_law {s : Stk} (hs : Good s) {q : Int} (h1 : 1 ≤ q) (h2 : q < s.qty) {r1 r2 : Res}
    (e1 : r1 = stepM s (issueMov (unusedM s.psts) q)) (e2 : r2 = stepM r1.stk (issueMov (unusedM r1.stk.psts) (s.qty - q))) :
    r1.err = 0 ∧ r2.err = 0 ∧ r2.stk.qty = 0 ∧ r2.stk.val = 0 ∧ r2.stk.lays = [] ∧ r1.cst.val + r2.cst.val = - s.val ∧ Good r1.stk ∧ r1.stk.qty = s.qty - q := by
  have hqb := hs.qb
  rcases issue_law hs (q := q) (unused_spec hs.p).2.2 with ⟨f1, _, _, pre, rest, lays', sum, _, g1, g2, g3, _⟩ | ⟨f1, f2⟩
  · have hr1 : r1.err = 0 := by rw [e1]; exact f1
    have hok := step_ok s _ hs f1
    rw [← e1] at hok g1
    have ht := hok.good
    have htq : r1.stk.qty = s.qty - q := by rw [g1]
    have htv : r1.stk.val = s.val - sum := by rw [g1]
    have hcv : r1.cst.val = -sum := by rw [g1]
    rw [← htq] at e2
    rcases issue_law ht (q := r1.stk.qty) (unused_spec ht.p).2.2 with ⟨k1, _, _, pre2, rest2, lays2, sum2, j0, j1, j2, j3, j4⟩ | ⟨k1, k2⟩
    · rw [← e2] at j1 k1
      have hq2 := ht.q
      have hv2 := ht.v
      rw [j0, sumQ_append] at hq2
      rw [j0, sumV_append] at hv2
      have hrest : ∀ l ∈ rest2, GL l := fun l hl => ht.l l (by rw [j0]; simp [hl])
      have hn := sumQ_nn rest2 hrest
      rcases j4 with ⟨a1, a2, a3⟩ | ⟨l, r, d, p, a0, a1, a2, a3, _⟩
      · have hnil : rest2 = [] := List.eq_nil_of_length_eq_zero (by have := hn.2.2; omega)
        subst hnil
        simp only [sumV] at hv2
        rw [j1]
        refine ⟨hr1, rfl, by simp only; omega, by simp only; omega, a3, by simp only [hcv]; omega, ht, htq⟩
      · exfalso
        subst a0
        simp only [sumQ] at hq2
        have := sumQ_nn r fun l hl => hrest l (by simp [hl])
        omega
    · exfalso
      rcases k2 with k2 | ⟨_, k2⟩ <;> omega
  · exfalso
    rcases f2 with f2 | ⟨_, f2⟩ <;> omega

theorem find_end (kind n : Int) (P : Pst) : ∀ (ps : List Pst), ¬ findM 0 n ps < ps.length → P.seq = n → P.kind = kind → findM kind n (ps ++ [P]) = ps.length
  | [], _, h1, h2 => by simp [findM, h1, h2]
  | p :: ps, h, h1, h2 => by
    have hp : ¬ p.seq = n := by
      intro he
      apply h
      rw [find_lt]
      exact ⟨p, by simp, he, .inl rfl⟩
    have ih := find_end kind n P ps (by
      intro hf
      apply h
      rw [find_lt] at hf ⊢
      obtain ⟨x, hx, he⟩ := hf
      exact ⟨x, by simp [hx], he⟩) h1 h2
    simp only [List.cons_append, findM]
    rw [if_neg (by simp [hp]), ih]
    rfl
theorem get_end (P : Pst) : ∀ (ps : List Pst), (ps ++ [P]).getD ps.length zPst = P
  | [] => rfl
  | p :: ps => by simp
theorem set_end (P Q : Pst) : ∀ (ps : List Pst), (ps ++ [P]).set ps.length Q = ps ++ [Q]
  | [] => rfl
  | p :: ps => by simp
theorem new_end {m : Int} {P : Pst} (Q : Pst) {ps : List Pst} (h : ¬ findM 0 m (ps ++ [P]) < (ps ++ [P]).length) (he : Q.seq = P.seq) : ¬ findM 0 m (ps ++ [Q]) < (ps ++ [Q]).length := by
  intro hf
  apply h
  rw [find_lt] at hf ⊢
  obtain ⟨x, hx, hxe, hk⟩ := hf
  simp only [List.mem_append, List.mem_singleton] at hx
  rcases hx with hx | rfl
  · exact ⟨x, by simp [hx], hxe, hk⟩
  · exact ⟨P, by simp, by rw [← he]; exact hxe, .inl rfl⟩

/-- a return of an issue that is the past's last -/
theorem back_law {t : Stk} {ps : List Pst} {P : Pst} (ht : Good t) (hp : t.psts = ps ++ [P]) {n m k : Int} (hn : ¬ findM 0 n ps < ps.length) (hm : ¬ findM 0 m t.psts < t.psts.length)
    (h1 : P.seq = n) (h2 : P.kind = 2) (hk : 1 ≤ k ∧ k ≤ 1000000000) (hn1 : 1 ≤ n) :
    (P.qty - P.used < k → (stepM t (backMov m k n)).err = 21) ∧
    (k ≤ P.qty - P.used → ∀ v, v = partM (P.val - P.uval) k (P.qty - P.used) → t.qty + k ≤ 1000000000 → t.val + v ≤ 1000000000000000 →
      0 ≤ v ∧ v ≤ P.val - P.uval ∧ stepM t (backMov m k n) = ⟨0, ⟨t.qty + k, t.val + v, 0, t.lays ++ [⟨m, P.lot, k, v⟩], ps ++ [{ P with used := P.used + k, uval := P.uval + v }]⟩, ⟨m, k, v, 0⟩⟩) := by
  have hGP := ht.p P (by rw [hp]; simp)
  obtain ⟨g1, g2, g3, g4, g5, g6, g7, g8⟩ := hGP
  have hst : stepM t (backMov m k n) = (let o := backM t (backMov m k n)
      if ¬ o.err = 0 then ⟨o.err, zStk, zCst⟩ else
      if overM o.lays (wrap64 (t.qty + o.cst.qty)) (wrap64 (t.val + o.cst.val)) o.cst.var then ⟨4, zStk, zCst⟩ else ⟨0, ⟨wrap64 (t.qty + o.cst.qty), wrap64 (t.val + o.cst.val), t.price, o.lays, o.psts⟩, o.cst⟩) := by
    unfold stepM
    rw [if_neg (by rw [one_back m k n hk hn1]; simp), if_neg hm]
    rfl
  have hi : findM 2 n t.psts = ps.length := by rw [hp]; exact find_end 2 n P ps hn h1 h2
  have hg : t.psts.getD ps.length zPst = P := by rw [hp]; exact get_end P ps
  have hnn := ht.nn
  constructor
  · intro hlt
    have ho : backM t (backMov m k n) = bad 21 t (backMov m k n) := by
      unfold backM
      simp only [hi, hg]
      rw [if_neg (by rw [hp]; simp), if_pos (by rw [w_id _ (by omega) (by omega)]; exact hlt)]
    rw [hst, ho]
    simp [bad]
  · intro hle v hv hq hvb
    obtain ⟨hb0, hb1⟩ := part_bd (P.val - P.uval) k (P.qty - P.used) (by omega) (by omega) hle (by omega)
    rw [← hv] at hb0 hb1
    have ho : backM t (backMov m k n) = ⟨0, t.lays ++ [⟨m, P.lot, k, v⟩], ps ++ [{ P with used := P.used + k, uval := P.uval + v }], ⟨m, k, v, 0⟩⟩ := by
      unfold backM
      simp only [hi, hg]
      rw [w_id (P.qty - P.used) (by omega) (by omega), w_id (P.val - P.uval) (by omega) (by omega), ← hv, w_id (P.used + k) (by omega) (by omega), w_id (P.uval + v) (by omega) (by omega),
        if_neg (by rw [hp]; simp), if_neg (by omega), hp, set_end]
    have hov : overM (t.lays ++ [⟨m, P.lot, k, v⟩]) (t.qty + k) (t.val + v) 0 = false :=
      over_no (put_all ht.l ⟨hk.1, hb0⟩) (by rw [sumV_append, ← ht.v]; simp only [sumV]; omega) hq (by omega) rfl
    refine ⟨hb0, hb1, ?_⟩
    rw [hst, ho]
    simp only
    rw [if_neg (by simp), w_id _ (by omega) (by omega), w_id _ (by omega) (by omega), hov, if_neg (by simp), ht.pr]

/-- what FifoUndo asks -/
theorem undo_law {s : Stk} (hs : Good s) {q part : Int} (h1 : 2 ≤ q) (h2 : q ≤ s.qty) (h3 : 1 ≤ part) (h4 : part < q) {n m : Int} {r1 r2 r3 r4 : Res} (hn : n = unusedM s.psts)
    (e1 : r1 = stepM s (issueMov n q)) (hm : m = unusedM r1.stk.psts) (e2 : r2 = stepM r1.stk (backMov m part n)) (e3 : r3 = stepM r2.stk (backMov m (q - part) n)) (e4 : r4 = stepM r3.stk (backMov m 1 n)) :
    r1.err = 0 ∧ r2.err = 0 ∧ r3.err = 0 ∧ r3.stk.qty = s.qty ∧ r3.stk.val = s.val ∧ r4.err = 21 ∧ Good r1.stk ∧ Good r2.stk ∧ Good r3.stk := by
  have hqb := hs.qb
  have hvb := hs.vb
  have hu := unused_spec hs.p
  rw [← hn] at hu
  have hn1 : 1 ≤ n := by have := hu.1; omega
  rcases issue_law hs (n := n) (q := q) hu.2.2 with ⟨f1, _, _, pre, rest, lays', sum, _, g1, g2, g3, _⟩ | ⟨f1, f2⟩
  · have hok := step_ok s _ hs f1
    rw [← e1] at hok g1 f1
    have ht := hok.good
    have hp1 : r1.stk.psts = s.psts ++ [⟨n, 2, ⟨#[]⟩, q, sum, 0, 0⟩] := by rw [g1]
    have hq1 : r1.stk.qty = s.qty - q := by rw [g1]
    have hv1 : r1.stk.val = s.val - sum := by rw [g1]
    have hm0 := (unused_spec ht.p).2.2
    rw [← hm] at hm0
    obtain ⟨b0, b1, b2⟩ := (back_law ht hp1 hu.2.2 hm0 rfl rfl (k := part) (by omega) hn1).2 (by simp only; omega) _ rfl (by omega) (by
      have := part_bd (sum - 0) part (q - 0) (by omega) (by omega) (by omega) (by omega)
      simp only; omega)
    simp only at b0 b1 b2
    generalize hpv : partM (sum - 0) part (q - 0) = v1 at *
    rw [← e2] at b2
    have f2 : r2.err = 0 := by rw [b2]
    have ht2 : Good r2.stk := by
      have := (step_ok r1.stk _ ht (show (stepM r1.stk (backMov m part n)).err = 0 by rw [← e2]; exact f2)).good
      rw [← e2] at this
      exact this
    have hp2 : r2.stk.psts = s.psts ++ [⟨n, 2, ⟨#[]⟩, q, sum, 0 + part, 0 + v1⟩] := by rw [b2]
    have hq2 : r2.stk.qty = r1.stk.qty + part := by rw [b2]
    have hv2 : r2.stk.val = r1.stk.val + v1 := by rw [b2]
    have hm2 : ¬ findM 0 m r2.stk.psts < r2.stk.psts.length := by rw [hp2]; rw [hp1] at hm0; exact new_end _ hm0 rfl
    have hpv2 : partM (sum - (0 + v1)) (q - part) (q - (0 + part)) = sum - v1 := by
      unfold partM
      rw [if_pos (by omega)]
      omega
    obtain ⟨c0, c1, c2⟩ := (back_law ht2 hp2 hu.2.2 hm2 rfl rfl (k := q - part) (by omega) hn1).2 (by simp only; omega) _ rfl (by omega) (by simp only [hpv2]; omega)
    simp only at c0 c1 c2
    rw [hpv2] at c0 c1 c2
    rw [← e3] at c2
    have f3 : r3.err = 0 := by rw [c2]
    have ht3 : Good r3.stk := by
      have := (step_ok r2.stk _ ht2 (show (stepM r2.stk (backMov m (q - part) n)).err = 0 by rw [← e3]; exact f3)).good
      rw [← e3] at this
      exact this
    have hp3 : r3.stk.psts = s.psts ++ [⟨n, 2, ⟨#[]⟩, q, sum, 0 + part + (q - part), 0 + v1 + (sum - v1)⟩] := by rw [c2]
    have hq3 : r3.stk.qty = s.qty := by rw [c2]; simp only; omega
    have hv3 : r3.stk.val = s.val := by rw [c2]; simp only; omega
    have hm3 : ¬ findM 0 m r3.stk.psts < r3.stk.psts.length := by rw [hp3]; rw [hp2] at hm2; exact new_end _ hm2 rfl
    have c3 := (back_law ht3 hp3 hu.2.2 hm3 rfl rfl (k := 1) (by omega) hn1).1 (by simp only; omega)
    rw [← e4] at c3
    exact ⟨f1, f2, f3, hq3, hv3, c3, ht, ht2, ht3⟩
  · exfalso
    rcases f2 with f2 | ⟨_, f2⟩ <;> omega

/-- the state after the movements that succeed -/
def playM : List Mov → Stk → Stk
  | [], s => s
  | m :: ms, s => playM ms (if (stepM s m).err = 0 then (stepM s m).stk else s)
theorem out_psts (s : Stk) (m : Mov) : (doM s m).psts.length ≤ s.psts.length + 1 := by
  unfold doM
  split
  · simp [receiveM]
  split
  · unfold issueStepM
    split
    · simp [bad]
    · simp
  split
  · unfold backM
    simp only
    split
    · simp [bad]
    · split <;> simp [bad]
  split
  · unfold sendM
    simp only
    split
    · simp [bad]
    · split
      · simp [bad]
      · split <;> simp [bad]
  split
  · unfold landM
    simp only
    split
    · simp [bad]
    · split
      · simp [bad]
      · split
        · simp
        · (repeat' split) <;> simp [bad]
          all_goals (repeat' split) <;> simp [bad]
  · simp [bad]
end Go.Proofs.YtboiipkbhbbgfaaDoor
