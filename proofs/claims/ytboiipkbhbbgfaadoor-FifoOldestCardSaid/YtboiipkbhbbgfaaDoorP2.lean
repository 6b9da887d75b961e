/- The plain laws of fifo: a step keeps a good state good, and its costs are those of the sums. -/
import Derived.Test.YtboiipkbhbbgfaaDoorP1
namespace Go.Proofs.YtboiipkbhbbgfaaDoor
open Go.RowKit

theorem getD_mem {α : Type} (d : α) : ∀ (ls : List α) (k : Nat), k < ls.length → ls.getD k d ∈ ls
  | [], k, h => by simp at h
  | l :: ls, 0, _ => by simp
  | l :: ls, k + 1, h => by
    have := getD_mem d ls k (by simpa using h)
    simp only [List.getD_cons_succ, List.mem_cons]
    exact .inr this
theorem sumQ_set : ∀ (ls : List Lay) (k : Nat) (l : Lay), k < ls.length → sumQ (ls.set k l) = sumQ ls - (ls.getD k zLay).qty + l.qty
  | [], k, _, h => by simp at h
  | x :: ls, 0, l, _ => by simp only [List.set_cons_zero, sumQ, List.getD_cons_zero]; omega
  | x :: ls, k + 1, l, h => by
    have := sumQ_set ls k l (by simpa using h)
    simp only [List.set_cons_succ, sumQ, List.getD_cons_succ, this]; omega
theorem sumV_set : ∀ (ls : List Lay) (k : Nat) (l : Lay), k < ls.length → sumV (ls.set k l) = sumV ls - (ls.getD k zLay).val + l.val
  | [], k, _, h => by simp at h
  | x :: ls, 0, l, _ => by simp only [List.set_cons_zero, sumV, List.getD_cons_zero]; omega
  | x :: ls, k + 1, l, h => by
    have := sumV_set ls k l (by simpa using h)
    simp only [List.set_cons_succ, sumV, List.getD_cons_succ, this]; omega
theorem sumQ_cut : ∀ (ls : List Lay) (k : Nat), k < ls.length → sumQ (ls.take k ++ ls.drop (k + 1)) = sumQ ls - (ls.getD k zLay).qty
  | [], k, h => by simp at h
  | x :: ls, 0, _ => by simp only [List.take_zero, List.nil_append, List.drop_succ_cons, List.drop_zero, sumQ, List.getD_cons_zero]; omega
  | x :: ls, k + 1, h => by
    have := sumQ_cut ls k (by simpa using h)
    simp only [List.take_succ_cons, List.cons_append, List.drop_succ_cons, sumQ, List.getD_cons_succ, this]; omega
theorem sumV_cut : ∀ (ls : List Lay) (k : Nat), k < ls.length → sumV (ls.take k ++ ls.drop (k + 1)) = sumV ls - (ls.getD k zLay).val
  | [], k, h => by simp at h
  | x :: ls, 0, _ => by simp only [List.take_zero, List.nil_append, List.drop_succ_cons, List.drop_zero, sumV, List.getD_cons_zero]; omega
  | x :: ls, k + 1, h => by
    have := sumV_cut ls k (by simpa using h)
    simp only [List.take_succ_cons, List.cons_append, List.drop_succ_cons, sumV, List.getD_cons_succ, this]; omega
theorem set_all {α : Type} {P : α → Prop} {ls : List α} {k : Nat} {x : α} (h : ∀ l ∈ ls, P l) (hx : P x) : ∀ l ∈ ls.set k x, P l := by
  intro l hl
  rcases List.mem_or_eq_of_mem_set hl with h1 | rfl
  · exact h l h1
  · exact hx
theorem cut_all {α : Type} {P : α → Prop} {ls : List α} {k : Nat} (h : ∀ l ∈ ls, P l) : ∀ l ∈ ls.take k ++ ls.drop (k + 1), P l := by
  intro l hl
  rcases List.mem_append.1 hl with h1 | h1
  · exact h l (List.mem_of_mem_take h1)
  · exact h l (List.mem_of_mem_drop h1)
theorem put_all {α : Type} {P : α → Prop} {ls : List α} {x : α} (h : ∀ l ∈ ls, P l) (hx : P x) : ∀ l ∈ ls ++ [x], P l := by
  intro l hl
  rcases List.mem_append.1 hl with h1 | h1
  · exact h l h1
  · rw [List.mem_singleton] at h1; subst h1; exact hx

/-- what is known of a movement that is right by itself -/
structure One (m : Mov) : Prop where
  k : 1 ≤ m.kind ∧ m.kind ≤ 6
  q : (m.kind = 5 ∨ m.kind = 6) ∧ m.qty = 0 ∨ ¬ (m.kind = 5 ∨ m.kind = 6) ∧ 1 ≤ m.qty ∧ m.qty ≤ 1000000000
  c : (m.kind = 2 ∨ m.kind = 3) ∧ m.cost = 0 ∨ m.kind = 5 ∧ 1 ≤ m.cost ∧ m.cost ≤ 1000000000000 ∨ (¬ (m.kind = 2 ∨ m.kind = 3) ∧ ¬ m.kind = 5) ∧ 0 ≤ m.cost ∧ m.cost ≤ 1000000000000
theorem one_of {m : Mov} (h : oneM m = 0) : One m := by
  unfold oneM at h
  split at h
  · cases h
  split at h
  · cases h
  split at h
  · cases h
  split at h
  · cases h
  rename_i hk hqc
  have hk' : inB m.kind 1 6 = true := by simpa using hk
  have hq' : qtyB m = true ∧ costB m = true := by simpa using hqc
  refine ⟨?_, ?_, ?_⟩
  · unfold inB at hk'; simpa using hk'
  · have h1 := hq'.1
    unfold qtyB inB at h1
    by_cases hc : m.kind = 5 ∨ m.kind = 6
    · rw [if_pos hc] at h1
      exact .inl ⟨hc, by simpa using h1⟩
    · rw [if_neg hc] at h1
      exact .inr ⟨hc, by simpa using h1⟩
  · have h1 := hq'.2
    unfold costB inB at h1
    by_cases hc : m.kind = 2 ∨ m.kind = 3
    · rw [if_pos hc] at h1
      exact .inl ⟨hc, by simpa using h1⟩
    · rw [if_neg hc] at h1
      by_cases h5 : m.kind = 5
      · rw [if_pos h5] at h1
        exact .inr (.inl ⟨h5, by simpa using h1⟩)
      · rw [if_neg h5] at h1
        exact .inr (.inr ⟨⟨hc, h5⟩, by simpa using h1⟩)

theorem far_not {n : Int} (h : farM n = false) : -1000000000000000 ≤ n ∧ n ≤ 1000000000000000 := by
  unfold farM at h
  simp at h
  exact h
theorem far_no {n : Int} (h0 : -1000000000000000 ≤ n) (h1 : n ≤ 1000000000000000) : farM n = false := by
  unfold farM
  simp
  exact ⟨h0, h1⟩
theorem over_not {ls : List Lay} {q v r : Int} (h : overM ls q v r = false) : (∀ l ∈ ls, farM l.val = false) ∧ q ≤ 1000000000 ∧ farM v = false ∧ farM r = false := by
  unfold overM at h
  simp only [Bool.or_eq_false_iff, List.any_eq_false, decide_eq_false_iff_not, Int.not_lt] at h
  exact ⟨fun l hl => by simpa using h.1.1.1 l hl, h.1.1.2, h.1.2, h.2⟩

/-- what a movement does, apart from the sums, is sound -/
structure OutOk (s : Stk) (m : Mov) (o : Out) : Prop where
  q : sumQ o.lays = s.qty + o.cst.qty
  v : sumV o.lays = s.val + o.cst.val
  l : ∀ l ∈ o.lays, GL l
  p : ∀ p ∈ o.psts, GP p
  seq : o.cst.seq = m.seq
  qb : -1000000000 ≤ o.cst.qty ∧ o.cst.qty ≤ 1000000000
  vb : -1000000000000000 ≤ o.cst.val ∧ o.cst.val ≤ 9223372036854775807
  k1 : m.kind = 1 ∨ m.kind = 5 → o.cst.val + o.cst.var = m.cost
  k4 : m.kind = 4 → o.cst.val + o.cst.var = - m.cost

theorem receive_ok (s : Stk) (m : Mov) (hs : Good s) (hm : One m) (hk : m.kind = 1) : OutOk s m (receiveM s m) := by
  have hq : 1 ≤ m.qty ∧ m.qty ≤ 1000000000 := by rcases hm.q with h | h; omega; exact h.2
  have hc : 0 ≤ m.cost ∧ m.cost ≤ 1000000000000 := by rcases hm.c with h | h | h; omega; omega; exact h.2
  refine ⟨?_, ?_, ?_, ?_, rfl, ?_, ?_, fun _ => ?_, fun h => by omega⟩
  · simp only [receiveM, sumQ_append, sumQ, ← hs.q]; omega
  · simp only [receiveM, sumV_append, sumV, ← hs.v]; omega
  · exact put_all hs.l ⟨hq.1, hc.1⟩
  · refine put_all hs.p ⟨.inl hk, hq.1, hq.2, Int.le_refl _, ?_, Int.le_refl _, ?_, ?_⟩ <;> simp only <;> omega
  · simp only [receiveM]; omega
  · simp only [receiveM]; omega
  · simp only [receiveM]; omega

theorem issue_ok (s : Stk) (m : Mov) (hs : Good s) (hm : One m) (hk : m.kind = 2) (he : (issueStepM s m).err = 0) : OutOk s m (issueStepM s m) := by
  have hq : 1 ≤ m.qty ∧ m.qty ≤ 1000000000 := by rcases hm.q with h | h; omega; exact h.2
  have hnn := hs.nn
  unfold issueStepM at *
  by_cases hlt : s.qty < m.qty
  · rw [if_pos hlt] at he; cases he
  rw [if_neg hlt]
  have hqs := hs.q
  have hvs := hs.v
  have hvb := hs.vb
  obtain ⟨pre, rest, hsp, hr⟩ := issue_split s.lays m.qty 0 hs.l (by omega) (by omega) (by omega) (by omega) (by omega)
  have hpre : ∀ l ∈ pre, GL l := fun l hl => hs.l l (by rw [hsp]; simp [hl])
  have hrest : ∀ l ∈ rest, GL l := fun l hl => hs.l l (by rw [hsp]; simp [hl])
  have hp0 := sumV_nn pre hpre
  have hr0 := sumV_nn rest hrest
  have eq1 : sumQ s.lays = sumQ pre + sumQ rest := by rw [hsp, sumQ_append]
  have eq2 : sumV s.lays = sumV pre + sumV rest := by rw [hsp, sumV_append]
  rcases hr with ⟨e1, e2⟩ | ⟨l, r, d, p, e0, e1, hd0, hd1, hp, hpp, hpv, e2⟩
  · rw [e2]
    simp only
    rw [w_id (-m.qty) (by omega) (by omega), w_id (-(0 + sumV pre)) (by omega) (by omega)]
    refine ⟨?_, ?_, hrest, ?_, rfl, ?_, ?_, fun h => by omega, fun h => by omega⟩
    · simp only; omega
    · simp only; omega
    · refine put_all hs.p ⟨.inr hk, hq.1, hq.2, Int.le_refl _, ?_, Int.le_refl _, ?_, ?_⟩ <;> simp only <;> omega
    · simp only; omega
    · simp only; omega
  · rw [e2]
    subst e0
    simp only [sumQ, sumV] at eq1 eq2 hr0
    have hl := hrest l (by simp)
    have hr1 := sumV_nn r fun l hl => hrest l (by simp [hl])
    simp only
    rw [w_id (-m.qty) (by omega) (by omega), w_id (-(0 + sumV pre + p)) (by omega) (by omega)]
    refine ⟨?_, ?_, ?_, ?_, rfl, ?_, ?_, fun h => by omega, fun h => by omega⟩
    · simp only [sumQ]; omega
    · simp only [sumV]; omega
    · intro x hx
      rcases List.mem_cons.1 hx with rfl | hx
      · exact ⟨by simp only; omega, by simp only; omega⟩
      · exact hrest x (by simp [hx])
    · refine put_all hs.p ⟨.inr hk, hq.1, hq.2, Int.le_refl _, ?_, Int.le_refl _, ?_, ?_⟩ <;> simp only <;> omega
    · simp only; omega
    · simp only; omega

theorem back_ok (s : Stk) (m : Mov) (hs : Good s) (hm : One m) (hk : m.kind = 3) (he : (backM s m).err = 0) : OutOk s m (backM s m) := by
  have hq : 1 ≤ m.qty ∧ m.qty ≤ 1000000000 := by rcases hm.q with h | h; omega; exact h.2
  unfold backM at *
  simp only at *
  split at he
  · cases he
  rename_i hi
  split at he
  · cases he
  rename_i hu
  rw [if_neg hi, if_neg hu]
  have hp := hs.p _ (getD_mem zPst s.psts _ (Nat.lt_of_not_le hi))
  generalize hP : s.psts.getD (findM 2 m.ref s.psts) zPst = p at *
  obtain ⟨h1, h2, h3, h4, h5, h6, h7, h8⟩ := hp
  rw [w_id (p.qty - p.used) (by omega) (by omega)] at *
  rw [w_id (p.val - p.uval) (by omega) (by omega)]
  obtain ⟨hb0, hb1⟩ := part_bd (p.val - p.uval) m.qty (p.qty - p.used) (by omega) (by omega) (by omega) (by omega)
  generalize partM (p.val - p.uval) m.qty (p.qty - p.used) = v at *
  rw [w_id (p.used + m.qty) (by omega) (by omega), w_id (p.uval + v) (by omega) (by omega)]
  refine ⟨?_, ?_, ?_, ?_, rfl, ?_, ?_, fun h => by omega, fun h => by omega⟩
  · simp only [sumQ_append, sumQ, ← hs.q]; omega
  · simp only [sumV_append, sumV, ← hs.v]; omega
  · exact put_all hs.l ⟨hq.1, hb0⟩
  · exact set_all hs.p ⟨h1, h2, h3, by simp only; omega, by simp only; omega, by simp only; omega, by simp only; omega, h8⟩
  · simp only; omega
  · simp only; omega

theorem take_ok (ls : List Lay) (k : Nat) (q : Int) (hl : ∀ l ∈ ls, GL l ∧ l.qty ≤ 1000000000 ∧ l.val ≤ 1000000000000000) (hk : k < ls.length) (hq : 1 ≤ q) (hql : q ≤ (ls.getD k zLay).qty) :
    sumQ (takeM ls k q).2 = sumQ ls - q ∧ sumV (takeM ls k q).2 = sumV ls - (takeM ls k q).1 ∧ 0 ≤ (takeM ls k q).1 ∧ (takeM ls k q).1 ≤ 1000000000000000 ∧ ∀ l ∈ (takeM ls k q).2, GL l := by
  obtain ⟨⟨h1, h2⟩, h3, h4⟩ := hl _ (getD_mem zLay ls k hk)
  unfold takeM
  simp only
  have hcutQ := sumQ_cut ls k hk
  have hcutV := sumV_cut ls k hk
  have hsQ := sumQ_set ls k
  have hsV := sumV_set ls k
  generalize ls.getD k zLay = l at *
  obtain ⟨hb0, hb1⟩ := part_bd l.val q l.qty h2 (by omega) hql (by omega)
  rw [w_id (l.qty - q) (by omega) (by omega), w_id (l.val - partM l.val q l.qty) (by omega) (by omega)]
  split
  · rename_i hz
    have hqe : q = l.qty := by omega
    have hpe : partM l.val q l.qty = l.val := by unfold partM; rw [if_pos hqe]
    rw [hpe]
    exact ⟨by rw [hcutQ]; omega, by rw [hcutV], h2, h4, cut_all fun l hl' => (hl l hl').1⟩
  · rename_i hz
    refine ⟨by rw [hsQ _ hk]; simp only; omega, by rw [hsV _ hk]; simp only; omega, hb0, by omega, set_all (fun l hl' => (hl l hl').1) ⟨by simp only; omega, by simp only; omega⟩⟩

theorem send_ok (s : Stk) (m : Mov) (hs : Good s) (hm : One m) (hk : m.kind = 4) (he : (sendM s m).err = 0) : OutOk s m (sendM s m) := by
  have hq : 1 ≤ m.qty ∧ m.qty ≤ 1000000000 := by rcases hm.q with h | h; omega; exact h.2
  have hc : 0 ≤ m.cost ∧ m.cost ≤ 1000000000000 := by rcases hm.c with h | h | h; omega; omega; exact h.2
  unfold sendM at *
  simp only at *
  split at he
  · cases he
  rename_i hi
  split at he
  · cases he
  rename_i hu
  split at he
  · cases he
  rename_i hlk
  rw [if_neg hi, if_neg hu, if_neg hlk]
  have hp := hs.p _ (getD_mem zPst s.psts _ (Nat.lt_of_not_le hi))
  generalize hP : s.psts.getD (findM 1 m.ref s.psts) zPst = p at *
  obtain ⟨h1, h2, h3, h4, h5, h6, h7, h8⟩ := hp
  rw [w_id (p.qty - p.used) (by omega) (by omega)] at hu
  rw [w_id (p.used + m.qty) (by omega) (by omega)]
  obtain ⟨t1, t2, t3, t4, t5⟩ := take_ok s.lays (layerM m.ref s.lays) m.qty (fun l hl => ⟨hs.l l hl, (hs.lay hl).2.1, (hs.lay hl).2.2.2⟩) (by omega) hq.1 (by omega)
  generalize takeM s.lays (layerM m.ref s.lays) m.qty = r at *
  rw [w_id (-m.qty) (by omega) (by omega), w_id (-r.1) (by omega) (by omega), w_id (r.1 - m.cost) (by omega) (by omega)]
  have hqs := hs.q
  have hvs := hs.v
  refine ⟨?_, ?_, t5, ?_, rfl, ?_, ?_, fun h => by omega, fun _ => ?_⟩
  · simp only; omega
  · simp only; omega
  · exact set_all hs.p ⟨h1, h2, h3, by simp only; omega, by simp only; omega, h6, h7, h8⟩
  · simp only; omega
  · simp only; omega
  · simp only; omega

theorem md_top (a b c : Int) : (mulDivM a b c 4).1 ≤ 9223372036854775807 := by
  have mg : ∀ n : Int, 0 ≤ magM n := fun n => by unfold magM; split <;> omega
  have hX := Int.ediv_nonneg (Int.mul_nonneg (mg a) (mg b)) (mg c)
  unfold mulDivM mdEnd signedM
  repeat' split
  all_goals (try simp only)
  all_goals (try omega)

theorem land_ok (s : Stk) (m : Mov) (hs : Good s) (hm : One m) (hk : m.kind = 5) (he : (landM s m).err = 0) (hf : ∀ l ∈ (landM s m).lays, farM l.val = false) : OutOk s m (landM s m) := by
  have hq : m.qty = 0 := by rcases hm.q with h | h; exact h.2; omega
  have hc : 1 ≤ m.cost ∧ m.cost ≤ 1000000000000 := by rcases hm.c with h | h | h; omega; exact h.2; omega
  have hqs := hs.q
  have hvs := hs.v
  unfold landM at *
  simp only at *
  split at he
  · cases he
  rename_i hi
  split at he
  · cases he
  rename_i hu
  rw [if_neg hi, if_neg hu] at hf
  rw [if_neg hi, if_neg hu]
  have hp := hs.p _ (getD_mem zPst s.psts _ (Nat.lt_of_not_le hi))
  generalize hP : s.psts.getD (findM 1 m.ref s.psts) zPst = p at *
  obtain ⟨h1, h2, h3, h4, h5, h6, h7, h8⟩ := hp
  by_cases hkk : s.lays.length ≤ layerM m.ref s.lays
  · rw [if_pos hkk]
    rw [w_id (m.cost - 0) (by omega) (by omega)]
    refine ⟨?_, ?_, hs.l, hs.p, rfl, ?_, ?_, fun _ => ?_, fun h => by omega⟩ <;> simp only <;> omega
  · rw [if_neg hkk] at hf he ⊢
    have hlt := Nat.lt_of_not_le hkk
    have hmem := getD_mem zLay s.lays _ hlt
    have hlay := hs.lay hmem
    have hsQ := sumQ_set s.lays (layerM m.ref s.lays)
    have hsV := sumV_set s.lays (layerM m.ref s.lays)
    generalize hL : s.lays.getD (layerM m.ref s.lays) zLay = l at *
    have hr : ∀ r : Int × Int, r = (if l.qty = p.qty then (m.cost, 0) else mulDivM m.cost l.qty p.qty 4) → 0 ≤ r.1 ∧ r.1 ≤ 9223372036854775807 := by
      rintro r rfl
      split
      · simp only; omega
      · exact ⟨(md_pos m.cost l.qty p.qty (by omega) (by omega) (by omega)).1, md_top _ _ _⟩
    have hr' := hr _ rfl
    generalize (if l.qty = p.qty then (m.cost, (0 : Int)) else mulDivM m.cost l.qty p.qty 4) = r at *
    split at he
    · cases he
    rename_i hne
    rw [if_neg hne] at hf ⊢
    have hw := far_not (hf { l with val := wrap64 (l.val + r.1) } (List.mem_iff_getElem?.2 ⟨layerM m.ref s.lays, by simp [hlt]⟩))
    simp only at hw
    have hwr : wrap64 (l.val + r.1) = l.val + r.1 ∧ l.val + r.1 ≤ 1000000000000000 := by unfold wrap64 at *; omega
    rw [hwr.1, w_id (m.cost - r.1) (by omega) (by omega)]
    refine ⟨?_, ?_, ?_, hs.p, rfl, ?_, ?_, fun _ => ?_, fun h => by omega⟩
    · simp only; rw [hsQ _ hlt]; simp only; omega
    · simp only; rw [hsV _ hlt]; simp only; omega
    · exact set_all hs.l ⟨hlay.1, by simp only; omega⟩
    · simp only; omega
    · simp only; omega
    · simp only; omega

theorem do_ok (s : Stk) (m : Mov) (hs : Good s) (hm : One m) (he : (doM s m).err = 0) (hf : ∀ l ∈ (doM s m).lays, farM l.val = false) : OutOk s m (doM s m) := by
  unfold doM at *
  by_cases k1 : m.kind = 1
  · rw [if_pos k1]; exact receive_ok s m hs hm k1
  rw [if_neg k1] at he hf ⊢
  by_cases k2 : m.kind = 2
  · rw [if_pos k2] at he hf ⊢; exact issue_ok s m hs hm k2 he
  rw [if_neg k2] at he hf ⊢
  by_cases k3 : m.kind = 3
  · rw [if_pos k3] at he hf ⊢; exact back_ok s m hs hm k3 he
  rw [if_neg k3] at he hf ⊢
  by_cases k4 : m.kind = 4
  · rw [if_pos k4] at he hf ⊢; exact send_ok s m hs hm k4 he
  rw [if_neg k4] at he hf ⊢
  by_cases k5 : m.kind = 5
  · rw [if_pos k5] at he hf ⊢; exact land_ok s m hs hm k5 he hf
  rw [if_neg k5] at he
  cases he

/-- a step that succeeds -/
structure StepOk (s : Stk) (m : Mov) (t : Stk) (c : Cst) : Prop where
  good : Good t
  q : t.qty = s.qty + c.qty
  v : t.val = s.val + c.val
  seq : c.seq = m.seq
  qb : -1000000000 ≤ c.qty ∧ c.qty ≤ 1000000000
  vb : -1000000000000000 ≤ c.val ∧ c.val ≤ 1000000000000000
  k1 : m.kind = 1 ∨ m.kind = 5 → c.val + c.var = m.cost
  k4 : m.kind = 4 → c.val + c.var = - m.cost
  kind : 1 ≤ m.kind ∧ m.kind ≤ 5
  cost : 0 ≤ m.cost ∧ m.cost ≤ 1000000000000
theorem step_ok (s : Stk) (m : Mov) (hs : Good s) (he : (stepM s m).err = 0) : StepOk s m (stepM s m).stk (stepM s m).cst := by
  unfold stepM at *
  split at he
  · rename_i h; exact absurd he h
  rename_i h1
  split at he
  · cases he
  rename_i h2
  simp only at he
  split at he
  · rename_i h; exact absurd he h
  rename_i h3
  split at he
  · cases he
  rename_i h4
  rw [if_neg h1, if_neg h2]
  simp only
  rw [if_neg h3, if_neg h4]
  have ho := over_not (by simpa using h4)
  have hm := one_of (m := m) (by simpa using h1)
  have hk := do_ok s m hs hm (by simpa using h3) ho.1
  have hv := far_not ho.2.2.1
  have hq := ho.2.1
  have hnn := hs.nn
  have hqb := hs.qb
  have hvb := hs.vb
  have g1 := hk.qb
  have g2 := hk.vb
  have s1 := (sumV_nn _ hk.l).1
  have e1 := hk.v
  have e2 := hk.q
  have wq : wrap64 (s.qty + (doM s m).cst.qty) = s.qty + (doM s m).cst.qty := w_id _ (by omega) (by omega)
  have wv : wrap64 (s.val + (doM s m).cst.val) = s.val + (doM s m).cst.val := by unfold wrap64 at *; omega
  rw [wq] at hq
  rw [wv] at hv
  rw [wq, wv]
  have kb : 1 ≤ m.kind ∧ m.kind ≤ 5 := by
    refine ⟨hm.k.1, ?_⟩
    have := hm.k.2
    by_cases k6 : m.kind = 6
    · exfalso
      unfold doM at h3
      rw [if_neg (by omega), if_neg (by omega), if_neg (by omega), if_neg (by omega), if_neg (by omega)] at h3
      simp [bad] at h3
    · omega
  exact ⟨⟨e2.symm, e1.symm, hq, hv.2, hk.l, hk.p, hs.pr⟩, rfl, rfl, hk.seq, g1, ⟨g2.1, by simp only; omega⟩, hk.k1, hk.k4, kb, by rcases hm.c with h | h | h <;> omega⟩
end Go.Proofs.YtboiipkbhbbgfaaDoor
