/- A stock, a movement, a list of movements, as an argument brings them: read off the argument's datum. -/
import Derived.Test.YtboiipkbhbbgfaaDoorH2
import Derived.Deep.Slices
import Derived.Lib.SmallJoins
import Derived.DataElems
import Derived.Carry
import Derived.ProofKit
import Derived.OpenShut
namespace Go.Proofs.YtboiipkbhbbgfaaDoor
open Go.RowKit Go.ChangeShapes Go.WideShapes

theorem mapM_get {α β : Type} (f : α → Option β) : ∀ (l : List α) (cs : List β), l.mapM f = some cs → cs.length = l.length ∧ ∀ (i : Nat) (x : α), l[i]? = some x → f x = cs[i]?
  | [], cs, h => by
    simp at h
    subst h
    simp
  | y :: l, cs, h => by
    rw [List.mapM_cons] at h
    cases hy : f y with
    | none => simp [hy] at h
    | some b =>
      cases hl : l.mapM f with
      | none => simp [hy, hl] at h
      | some bs =>
        simp [hy, hl] at h
        subst h
        obtain ⟨h1, h2⟩ := mapM_get f l bs hl
        refine ⟨by simp [h1], ?_⟩
        intro i x hx
        cases i with
        | zero => simp at hx; subst hx; simpa using hy
        | succ i => simpa using h2 i x (by simpa using hx)
theorem cells_get {w : World} {base : Nat} {a : Addr} {n : Nat} {cs : List Value} (h : w.cells? base a n = some cs) : cs.length = n ∧ ∀ i, i < n → w.cell? (a.add i) = cs[i]? := by
  unfold World.cells? at h
  split at h
  · obtain ⟨h1, h2⟩ := mapM_get _ _ _ h
    exact ⟨by simpa using h1, fun i hi => h2 i i (by simp [hi])⟩
  · cases h

theorem list4 {α : Type} {cs : List α} (h : cs.length = 4) : ∃ c0 c1 c2 c3, cs = [c0, c1, c2, c3] := by
  match cs, h with
  | [c0, c1, c2, c3], _ => exact ⟨c0, c1, c2, c3, rfl⟩
theorem list5 {α : Type} {cs : List α} (h : cs.length = 5) : ∃ c0 c1 c2 c3 c4, cs = [c0, c1, c2, c3, c4] := by
  match cs, h with
  | [c0, c1, c2, c3, c4], _ => exact ⟨c0, c1, c2, c3, c4, rfl⟩
theorem list7 {α : Type} {cs : List α} (h : cs.length = 7) : ∃ c0 c1 c2 c3 c4 c5 c6, cs = [c0, c1, c2, c3, c4, c5, c6] := by
  match cs, h with
  | [c0, c1, c2, c3, c4, c5, c6], _ => exact ⟨c0, c1, c2, c3, c4, c5, c6, rfl⟩
theorem list8 {α : Type} {cs : List α} (h : cs.length = 8) : ∃ c0 c1 c2 c3 c4 c5 c6 c7, cs = [c0, c1, c2, c3, c4, c5, c6, c7] := by
  match cs, h with
  | [c0, c1, c2, c3, c4, c5, c6, c7], _ => exact ⟨c0, c1, c2, c3, c4, c5, c6, c7, rfl⟩

theorem cellsOf3 : Tryd.prog.cellsOf 3 = 1 := by kernel_rfl
theorem cellsOf9 : Tryd.prog.cellsOf 9 = 1 := by kernel_rfl
theorem cellsOf29 : Tryd.prog.cellsOf 29 = 1 := by kernel_rfl
theorem cellsOf30 : Tryd.prog.cellsOf 30 = 1 := by kernel_rfl
theorem cellsOf32 : Tryd.prog.cellsOf 32 = 5 := by kernel_rfl
theorem cellsOf38 : Tryd.prog.cellsOf 38 = 8 := by kernel_rfl
theorem cellsOf44 : Tryd.prog.cellsOf 44 = 4 := by kernel_rfl
theorem cellsOf51 : Tryd.prog.cellsOf 51 = 7 := by kernel_rfl

section
variable {H : Type} {enc : TypeId × Value → H} {w : World} {base : Nat} {spare : Nat → Bool} {held : Bool}

set_option maxRecDepth 100000 in
theorem trod_i {fuel : Nat} {c : Value} {x : DataW H × List MemPlace} (h : DataW.trod enc Tryd.prog w base spare held fuel 3 [c] = some x) : ∃ n, c = .int .i64 n ∧ I64 n := by
  obtain ⟨n, h1, _, h3⟩ := DataW.trod_int Tryd.underlying3 h
  simp at h1
  exact ⟨n, h1, bounds_i64 h3⟩
set_option maxRecDepth 100000 in
theorem trod_s {fuel : Nat} {c : Value} {x : DataW H × List MemPlace} (h : DataW.trod enc Tryd.prog w base spare held fuel 9 [c] = some x) : ∃ s : ByteArray, c = .string s ∧ s.size ≤ 9223372036854775807 := by
  obtain ⟨n, h1, _, h3⟩ := DataW.trod_string Tryd.underlying9 h
  simp at h1
  exact ⟨n, h1, h3⟩

set_option maxRecDepth 100000 in
theorem trod_lay {fuel : Nat} {cs : List Value} {x : DataW H × List MemPlace} (h : DataW.trod enc Tryd.prog w base spare held fuel 44 cs = some x) : ∃ l : Lay, cs = l.cs ∧ I64 l.qty ∧ I64 l.val := by
  obtain ⟨xs, n, _, _, hl, hlen, hf⟩ := DataW.trod_struct Tryd.underlying44 h
  rw [cellsOf44] at hl
  obtain ⟨c0, c1, c2, c3, rfl⟩ := list4 hl
  have f0 := hf 0 _ rfl
  have f1 := hf 1 _ rfl
  have f2 := hf 2 _ rfl
  have f3 := hf 3 _ rfl
  obtain ⟨x0, x1, x2, x3, rfl⟩ := list4 hlen
  simp [cellsOf3, cellsOf9] at f0 f1 f2 f3
  obtain ⟨n0, rfl, _⟩ := trod_i f0
  obtain ⟨s1, rfl, _⟩ := trod_s f1
  obtain ⟨n2, rfl, i2⟩ := trod_i f2
  obtain ⟨n3, rfl, i3⟩ := trod_i f3
  exact ⟨⟨n0, s1, n2, n3⟩, rfl, i2, i3⟩
set_option maxRecDepth 100000 in
theorem trod_pst {fuel : Nat} {cs : List Value} {x : DataW H × List MemPlace} (h : DataW.trod enc Tryd.prog w base spare held fuel 51 cs = some x) : ∃ p : Pst, cs = p.cs ∧ I64 p.qty := by
  obtain ⟨xs, n, _, _, hl, hlen, hf⟩ := DataW.trod_struct Tryd.underlying51 h
  rw [cellsOf51] at hl
  obtain ⟨c0, c1, c2, c3, c4, c5, c6, rfl⟩ := list7 hl
  have f0 := hf 0 _ rfl
  have f1 := hf 1 _ rfl
  have f2 := hf 2 _ rfl
  have f3 := hf 3 _ rfl
  have f4 := hf 4 _ rfl
  have f5 := hf 5 _ rfl
  have f6 := hf 6 _ rfl
  obtain ⟨x0, x1, x2, x3, x4, x5, x6, rfl⟩ := list7 hlen
  simp [cellsOf3, cellsOf9] at f0 f1 f2 f3 f4 f5 f6
  obtain ⟨n0, rfl, _⟩ := trod_i f0
  obtain ⟨n1, rfl, _⟩ := trod_i f1
  obtain ⟨s2, rfl, _⟩ := trod_s f2
  obtain ⟨n3, rfl, i3⟩ := trod_i f3
  obtain ⟨n4, rfl, _⟩ := trod_i f4
  obtain ⟨n5, rfl, _⟩ := trod_i f5
  obtain ⟨n6, rfl, _⟩ := trod_i f6
  exact ⟨⟨n0, n1, s2, n3, n4, n5, n6⟩, rfl, i3⟩

/-- what every movement that a call brings has -/
structure MovOk (m : Mov) : Prop where
  seq : I64 m.seq
  value : I64 m.value
  kind : I64 m.kind
  qty : I64 m.qty
  cost : I64 m.cost
  ref : I64 m.ref
  item : m.item.size ≤ 9223372036854775807
  lot : m.lot.size ≤ 9223372036854775807
def Mov.cs (m : Mov) : List Value := [.int .i64 m.seq, .int .i64 m.value, .string m.item, .int .i64 m.kind, .int .i64 m.qty, .int .i64 m.cost, .string m.lot, .int .i64 m.ref]
set_option maxRecDepth 100000 in
theorem trod_mov {fuel : Nat} {cs : List Value} {x : DataW H × List MemPlace} (h : DataW.trod enc Tryd.prog w base spare held fuel 38 cs = some x) : ∃ m : Mov, cs = m.cs ∧ MovOk m := by
  obtain ⟨xs, n, _, _, hl, hlen, hf⟩ := DataW.trod_struct Tryd.underlying38 h
  rw [cellsOf38] at hl
  obtain ⟨c0, c1, c2, c3, c4, c5, c6, c7, rfl⟩ := list8 hl
  have f0 := hf 0 _ rfl
  have f1 := hf 1 _ rfl
  have f2 := hf 2 _ rfl
  have f3 := hf 3 _ rfl
  have f4 := hf 4 _ rfl
  have f5 := hf 5 _ rfl
  have f6 := hf 6 _ rfl
  have f7 := hf 7 _ rfl
  obtain ⟨x0, x1, x2, x3, x4, x5, x6, x7, rfl⟩ := list8 hlen
  simp [cellsOf3, cellsOf9] at f0 f1 f2 f3 f4 f5 f6 f7
  obtain ⟨n0, rfl, i0⟩ := trod_i f0
  obtain ⟨n1, rfl, i1⟩ := trod_i f1
  obtain ⟨s2, rfl, i2⟩ := trod_s f2
  obtain ⟨n3, rfl, i3⟩ := trod_i f3
  obtain ⟨n4, rfl, i4⟩ := trod_i f4
  obtain ⟨n5, rfl, i5⟩ := trod_i f5
  obtain ⟨s6, rfl, i6⟩ := trod_s f6
  obtain ⟨n7, rfl, i7⟩ := trod_i f7
  exact ⟨⟨n0, n1, s2, n3, n4, n5, s6, n7⟩, rfl, ⟨i0, i1, i3, i4, i5, i7, i2, i6⟩⟩

/-- a row whose elements each read: a list of them -/
theorem row_list {α : Type} (z : α) (cells : α → List Value) (k : Nat) (Ok : α → Prop) (hk : 0 < k) (hlen : ∀ x, (cells x).length = k) (a : Addr) : ∀ (n : Nat),
    (∀ i, i < n → ∃ x, Ok x ∧ ∀ j, j < k → w.cell? (a.add (i * k + j)) = (cells x)[j]?) →
    ∃ ls : List α, ls.length = n ∧ (∀ x ∈ ls, Ok x) ∧ (ls.flatMap cells).length = n * k ∧ ∀ j u, (ls.flatMap cells)[j]? = some u → w.cell? (a.add j) = some u
  | 0, _ => ⟨[], rfl, by simp, by simp, by simp⟩
  | n + 1, h => by
    obtain ⟨ls, h1, h2, h3, h4⟩ := row_list z cells k Ok hk hlen a n fun i hi => h i (by omega)
    obtain ⟨x, hx, hc⟩ := h n (by omega)
    refine ⟨ls ++ [x], by simp [h1], ?_, ?_, ?_⟩
    · intro y hy
      rcases List.mem_append.1 hy with hy | hy
      · exact h2 y hy
      · rw [List.mem_singleton] at hy; subst hy; exact hx
    · rw [List.flatMap_append, List.length_append, h3]
      simp only [List.flatMap_cons, List.flatMap_nil, List.append_nil, hlen]
      rw [Nat.succ_mul]
    · intro j u hu
      rw [List.flatMap_append] at hu
      simp only [List.flatMap_cons, List.flatMap_nil, List.append_nil] at hu
      by_cases hj : j < n * k
      · rw [List.getElem?_append_left (by rw [h3]; exact hj)] at hu
        exact h4 j u hu
      · rw [List.getElem?_append_right (by rw [h3]; omega), h3] at hu
        have hlt : j - n * k < k := by
          have := (List.getElem?_eq_some_iff.1 hu).1
          rw [hlen] at this
          exact this
        have := hc (j - n * k) hlt
        rw [show n * k + (j - n * k) = j by omega, hu] at this
        exact this

set_option maxRecDepth 100000 in
theorem open_lays {fuel : Nat} {v : Value} {x : DataW H × List MemPlace} (h : DataW.trod enc Tryd.prog w base spare held fuel 29 [v] = some x) : ∃ ls : List Lay, Rd w 4 v ls.length (laysC ls) ∧ LaysOk ls := by
  rcases Deep.open_slice Tryd.underlying29 h with ⟨hcs, _⟩ | ⟨a, len, cap, m, n, D, Pl, hcs, hb, hl, hm, hmm, hx, hi⟩
  · simp at hcs
    subst hcs
    exact ⟨[], ⟨rfl, .inl ⟨rfl, rfl⟩⟩, fun l hl => by cases hl⟩
  · simp at hcs
    subst hcs
    have hlm : len ≤ m := by rw [hmm]; split <;> omega
    obtain ⟨ls, h1, h2, h3, h4⟩ := row_list zLay Lay.cs 4 (fun l => I64 l.qty ∧ I64 l.val) (by omega) (fun x => rfl) a len fun i hlt => by
      obtain ⟨cs', hc, ht⟩ := hi i (by omega)
      rw [cellsOf44] at hc
      obtain ⟨l, rfl, ho⟩ := trod_lay ht
      refine ⟨l, ho, fun j hj => ?_⟩
      have := (cells_get hc).2 j hj
      rwa [Addr.add_add] at this
    exact ⟨ls, ⟨by rw [h1]; exact h3, .inr ⟨a, cap, by rw [h1], h4⟩⟩, h2⟩
set_option maxRecDepth 100000 in
theorem open_psts {fuel : Nat} {v : Value} {x : DataW H × List MemPlace} (h : DataW.trod enc Tryd.prog w base spare held fuel 30 [v] = some x) : ∃ ls : List Pst, Rd w 7 v ls.length (pstsC ls) ∧ PstsOk ls := by
  rcases Deep.open_slice Tryd.underlying30 h with ⟨hcs, _⟩ | ⟨a, len, cap, m, n, D, Pl, hcs, hb, hl, hm, hmm, hx, hi⟩
  · simp at hcs
    subst hcs
    exact ⟨[], ⟨rfl, .inl ⟨rfl, rfl⟩⟩, fun l hl => by cases hl⟩
  · simp at hcs
    subst hcs
    have hlm : len ≤ m := by rw [hmm]; split <;> omega
    obtain ⟨ls, h1, h2, h3, h4⟩ := row_list zPst Pst.cs 7 (fun l => I64 l.qty) (by omega) (fun x => rfl) a len fun i hlt => by
      obtain ⟨cs', hc, ht⟩ := hi i (by omega)
      rw [cellsOf51] at hc
      obtain ⟨l, rfl, ho⟩ := trod_pst ht
      refine ⟨l, ho, fun j hj => ?_⟩
      have := (cells_get hc).2 j hj
      rwa [Addr.add_add] at this
    exact ⟨ls, ⟨by rw [h1]; exact h3, .inr ⟨a, cap, by rw [h1], h4⟩⟩, h2⟩
def movsC (ms : List Mov) : List Value := ms.flatMap Mov.cs
set_option maxRecDepth 100000 in
theorem open_movs {fuel : Nat} {v : Value} {x : DataW H × List MemPlace} (h : DataW.trod enc Tryd.prog w base spare held fuel 28 [v] = some x) : ∃ ms : List Mov, Rd w 8 v ms.length (movsC ms) ∧ ms.length ≤ maxLen ∧ ∀ m ∈ ms, MovOk m := by
  rcases Deep.open_slice Tryd.underlying28 h with ⟨hcs, _⟩ | ⟨a, len, cap, m, n, D, Pl, hcs, hb, hl, hm, hmm, hx, hi⟩
  · simp at hcs
    subst hcs
    exact ⟨[], ⟨rfl, .inl ⟨rfl, rfl⟩⟩, Nat.zero_le _, fun l hl => by cases hl⟩
  · simp at hcs
    subst hcs
    have hlm : len ≤ m := by rw [hmm]; split <;> omega
    obtain ⟨ls, h1, h2, h3, h4⟩ := row_list (⟨0, 0, ⟨#[]⟩, 0, 0, 0, ⟨#[]⟩, 0⟩ : Mov) Mov.cs 8 MovOk (by omega) (fun x => rfl) a len fun i hlt => by
      obtain ⟨cs', hc, ht⟩ := hi i (by omega)
      rw [cellsOf38] at hc
      obtain ⟨l, rfl, ho⟩ := trod_mov ht
      refine ⟨l, ho, fun j hj => ?_⟩
      have := (cells_get hc).2 j hj
      rwa [Addr.add_add] at this
    exact ⟨ls, ⟨by rw [h1]; exact h3, .inr ⟨a, cap, by rw [h1], h4⟩⟩, by rw [h1]; omega, h2⟩

set_option maxRecDepth 100000 in
/-- a movement that is handed by value -/
theorem open_mov {r : Reach} {b0 : Nat} {v : Value} {d : DataW H} {p : List MemPlace} (hv : Value.okWide Tryd.prog w r b0 38 v) (h : DataW.Trod enc Tryd.prog w base spare held 38 v d p) : ∃ m : Mov, v = m.v ∧ MovOk m := by
  obtain ⟨cs, rfl, _⟩ := okWide_struct Tryd.underlying38 hv
  obtain ⟨fuel, hf⟩ := h
  obtain ⟨m, hm, ho⟩ := trod_mov hf
  refine ⟨m, ?_, ho⟩
  obtain ⟨l⟩ := cs
  simp [Value.cells] at hm
  subst hm
  rfl
set_option maxRecDepth 100000 in
/-- a stock that is handed by value -/
theorem open_stk {r : Reach} {b0 : Nat} {v : Value} {d : DataW H} {p : List MemPlace} (hv : Value.okWide Tryd.prog w r b0 32 v) (h : DataW.Trod enc Tryd.prog w base spare held 32 v d p) :
    ∃ (s : Stk) (vl vp : Value), v = .agg (stkA s.qty s.val s.price vl vp) ∧ Rd w 4 vl s.lays.length (laysC s.lays) ∧ Rd w 7 vp s.psts.length (pstsC s.psts) ∧ LaysOk s.lays ∧ PstsOk s.psts := by
  obtain ⟨cs, rfl, _⟩ := okWide_struct Tryd.underlying32 hv
  obtain ⟨fuel, hf⟩ := h
  obtain ⟨xs, n, _, _, hl, hlen, hf⟩ := DataW.trod_struct Tryd.underlying32 hf
  rw [cellsOf32] at hl
  obtain ⟨l⟩ := cs
  simp only [Value.cells] at hl hf
  obtain ⟨c0, c1, c2, c3, c4, rfl⟩ := list5 hl
  have f0 := hf 0 _ rfl
  have f1 := hf 1 _ rfl
  have f2 := hf 2 _ rfl
  have f3 := hf 3 _ rfl
  have f4 := hf 4 _ rfl
  obtain ⟨x0, x1, x2, x3, x4, rfl⟩ := list5 hlen
  simp [cellsOf3, cellsOf29, cellsOf30] at f0 f1 f2 f3 f4
  obtain ⟨n0, rfl, _⟩ := trod_i f0
  obtain ⟨n1, rfl, _⟩ := trod_i f1
  obtain ⟨n2, rfl, _⟩ := trod_i f2
  obtain ⟨ls, hls, ol⟩ := open_lays f3
  obtain ⟨ps, hps, op⟩ := open_psts f4
  exact ⟨⟨n0, n1, n2, ls, ps⟩, c3, c4, rfl, hls, hps, ol, op⟩
end
end Go.Proofs.YtboiipkbhbbgfaaDoor
