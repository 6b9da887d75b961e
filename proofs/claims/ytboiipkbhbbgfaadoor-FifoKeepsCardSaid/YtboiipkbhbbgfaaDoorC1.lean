/- The walk of the reference's Clone. -/
import Derived.Test.YtboiipkbhbbgfaaDoorJ1
namespace Go.Proofs.YtboiipkbhbbgfaaDoor
open Go.RowKit

theorem Row.empty (w : World) (e : TypeId) (k : Nat) : Row (w.alloc (.cells #[] e)) w.heap.size e k 0 0 [] #[] := ⟨Blk.new _ _ _, Nat.le_refl _, Nat.zero_le _, by simp, by simp, by simp⟩

section
variable {P : Program}
/-- append of a row that may be nil -/
theorem run_append_rd (w : World) (t ty : TypeId) (e : TypeId) (i : TypeInfo) (z : Value) (size bytes : Nat) (ht : P.underlying t = some (.slice e)) (hi : P.info? e = some i) (hz : i.zero = some z)
    (hsize : i.size = size) (hby : i.bytes = bytes) (hzs : z.cells.size = size)
    (g n c : Nat) (xs : List Value) (cur : Array Value) (h : Row w g e size n c xs cur) (v : Value) (m : Nat) (news : List Value) (hr : Rd w size v m news) (h1 : ∀ u ∈ news, u.oneCell' = true)
    (h63 : n + m ≤ maxLen) (hbytes : (n + m) * bytes ≤ 140737488355328) (H : Nat) (hH : w.heap.size = H) :
    ∃ g' c' cur' w', (Builtin.append_ #[t, t] ty #[.slice (some ⟨g, 0, none⟩) n c, v]).run P w = .ok (.slice (some ⟨g', 0, none⟩) (n + m) c') w' ∧
      Row w' g' e size (n + m) c' (xs ++ news) cur' ∧ Chg [g] w w' ∧ (g' = g ∨ g' = H) := by
  rcases hr.2 with ⟨rfl, rfl⟩ | ⟨a, c2, rfl, hc⟩
  · have hn : news = [] := List.eq_nil_of_length_eq_zero (by rw [hr.1]; simp)
    subst hn
    refine ⟨g, c, cur, w, ?_, by simpa using h, Chg.refl _ _, .inl rfl⟩
    have hnc := h.nc
    simp [Builtin.append_, run_underlying ht, Builtin.lenOf, Builtin.firstCells, sizeOf, typeInfo, hi, storeCells, hnc]
  · exact run_append_row w t ty e i z size bytes ht hi hz hsize hby hzs g n c xs cur h a m c2 news hr.1 hc h1 h63 hbytes H hH

theorem wpList_append_rd {w : World} {ops : Array Oper} {rest : List Oper} {o : Oper} {a : Act} {Q : Exit → Act → World → Prop} (hgd : o.guard = none) (s x : Operand) (t : TypeId)
    (ho : o.op = .call { callee := .builtin .append, args := #[s, x], argTypes := #[t, t] })
    (e : TypeId) (i : TypeInfo) (z : Value) (size bytes : Nat) (ht : P.underlying t = some (.slice e)) (hi : P.info? e = some i) (hz : i.zero = some z)
    (hsize : i.size = size) (hby : i.bytes = bytes) (hzs : z.cells.size = size)
    (g n c : Nat) (xs : List Value) (cur : Array Value) (hs : a.eval s = .slice (some ⟨g, 0, none⟩) n c) (hrow : Row w g e size n c xs cur)
    (v : Value) (m : Nat) (news : List Value) (hx : a.eval x = v) (hr : Rd w size v m news) (h1 : ∀ u ∈ news, u.oneCell' = true)
    (h63 : n + m ≤ maxLen) (hbytes : (n + m) * bytes ≤ 140737488355328) (H : Nat) (hH : w.heap.size = H)
    (h : ∀ g' c' cur' w', Row w' g' e size (n + m) c' (xs ++ news) cur' → Chg [g] w w' → (g' = g ∨ g' = H) → wpList P ops Q rest (a.put o.dst (.slice (some ⟨g', 0, none⟩) (n + m) c')) w') : wpList P ops Q (o :: rest) a w := by
  refine wpList_plain hgd fun K hK => ?_
  obtain ⟨g', c', cur', w', hrun, h2, h3, h4⟩ := run_append_rd (P := P) w t o.type e i z size bytes ht hi hz hsize hby hzs g n c xs cur hrow v m news hr h1 h63 hbytes H hH
  unfold Oper.wp
  simp [execOp, ho, resolve, invoke, builtin, hs, hx, hrun, Result.andThen]
  exact hK _ _ (h g' c' cur' w' h2 h3 h4)
end
end Go.Proofs.YtboiipkbhbbgfaaDoor
