/- How a state of fifo lies in memory: blocks, rows of layers and of the past, the computation's own struct. -/
import Derived.Test.YtboiipkbhbbgfaaDoorF0
namespace Go.Proofs.YtboiipkbhbbgfaaDoor
open Go.RowKit

/-- block g holds these cells, none of them frozen -/
def Blk (w : World) (g : Nat) (e : TypeId) (cur : Array Value) : Prop := w.heap[g]? = some (.cells cur e (0, 0))

theorem Blk.lt {w : World} {g : Nat} {e : TypeId} {cur : Array Value} (h : Blk w g e cur) : g < w.heap.size := (Array.getElem?_eq_some_iff.1 h).1
theorem Blk.cell {w : World} {g : Nat} {e : TypeId} {cur : Array Value} (h : Blk w g e cur) (o : Nat) : w.cell? ⟨g, o, none⟩ = cur[o]? := by
  unfold Blk at h
  simp [World.cell?, h]
theorem Blk.frozen {w : World} {g : Nat} {e : TypeId} {cur : Array Value} (h : Blk w g e cur) (o : Nat) : w.frozen? ⟨g, o, none⟩ = false := by
  unfold Blk at h
  simp [World.frozen?, h]
theorem Blk.new (w : World) (e : TypeId) (cur : Array Value) : Blk (w.alloc (.cells cur e)) w.heap.size e cur := by
  show (w.heap.push _)[w.heap.size]? = _
  simp
theorem Blk.alloc {w : World} {g : Nat} {e : TypeId} {cur : Array Value} (h : Blk w g e cur) (o : Obj) : Blk (w.alloc o) g e cur := by
  have := h.lt
  unfold Blk at *
  show (w.heap.push _)[g]? = _
  rw [Array.getElem?_push, if_neg (by omega)]
  exact h
theorem Blk.drew {w : World} {g : Nat} {e : TypeId} {cur : Array Value} (h : Blk w g e cur) : Blk w.drew g e cur := h
theorem Blk.set {w : World} {g : Nat} {e : TypeId} {cur : Array Value} (h : Blk w g e cur) (o : Nat) (v : Value) : Blk (w.setCell ⟨g, o, none⟩ v) g e (cur.setIfInBounds o v) := by
  have hl := h.lt
  unfold Blk at *
  rw [Array.getElem?_eq_getElem hl, Option.some.injEq] at h
  simp only [World.setCell]
  rw [Array.getElem?_eq_getElem (by simpa using hl), Array.getElem_modify, if_pos rfl, h]
  simp
theorem Blk.set_other {w : World} {g : Nat} {e : TypeId} {cur : Array Value} (h : Blk w g e cur) {a : Addr} (v : Value) (hne : a.block ≠ g) : Blk (w.setCell a v) g e cur := by
  unfold Blk at *
  rw [Below.heap_setCell _ _ _ _ (fun e => hne e.symm)]
  exact h
theorem Blk.of_same {w w' : World} {g : Nat} {e : TypeId} {cur : Array Value} (h : Blk w g e cur) (hs : w'.heap[g]? = w.heap[g]?) : Blk w' g e cur := hs.trans h
theorem Blk.below {w w' : World} {B : Nat} {g : Nat} {e : TypeId} {cur : Array Value} (h : Blk w g e cur) (hb : Below B w w') (hg : g < B) : Blk w' g e cur := h.of_same (hb.block g hg)
theorem Blk.below' {w w' : World} {g : Nat} {e : TypeId} {cur : Array Value} (h : Blk w g e cur) (hb : Below w.heap.size w w') : Blk w' g e cur := h.below hb h.lt

/-- what was there is as it was, but for the blocks of S -/
structure Chg (S : List Nat) (w w' : World) : Prop where
  os : w'.os = w.os
  tape : w'.tape = w.tape
  output : w'.output = w.output
  size : w.heap.size ≤ w'.heap.size
  block : ∀ k, k < w.heap.size → k ∉ S → w'.heap[k]? = w.heap[k]?

theorem Chg.refl (S : List Nat) (w : World) : Chg S w w := ⟨rfl, rfl, rfl, Nat.le_refl _, fun _ _ _ => rfl⟩
theorem Chg.trans {S T : List Nat} {a b c : World} (h : Chg S a b) (k : Chg T b c) (hT : ∀ x ∈ T, x ∈ S ∨ a.heap.size ≤ x) : Chg S a c :=
  ⟨k.os.trans h.os, k.tape.trans h.tape, k.output.trans h.output, Nat.le_trans h.size k.size, fun i hi hS =>
    (k.block i (Nat.lt_of_lt_of_le hi h.size) (fun hm => by rcases hT i hm with h1 | h1; exact hS h1; omega)).trans (h.block i hi hS)⟩
theorem Chg.mono {S T : List Nat} {a b : World} (h : Chg S a b) (hT : ∀ x ∈ S, x ∈ T) : Chg T a b := ⟨h.os, h.tape, h.output, h.size, fun i hi hn => h.block i hi fun hm => hn (hT i hm)⟩
theorem Chg.of_below {w w' : World} (S : List Nat) (h : Below w.heap.size w w') : Chg S w w' := ⟨h.os, h.tape, h.output, h.size, fun k hk _ => h.block k hk⟩
theorem Chg.below {B : Nat} {S : List Nat} {w w' : World} (h : Chg S w w') (hB : B ≤ w.heap.size) (hS : ∀ x ∈ S, B ≤ x) : Below B w w' :=
  ⟨h.os, h.tape, h.output, h.size, fun k hk => h.block k (by omega) (fun hm => by have := hS k hm; omega)⟩
theorem Chg.set {S : List Nat} {a w : World} (h : Chg S a w) {p : Addr} (hp : p.block ∈ S ∨ a.heap.size ≤ p.block) (u : Value) : Chg S a (w.setCell p u) :=
  h.trans (T := [p.block]) ⟨rfl, rfl, rfl, by simp [World.setCell], fun k _ hn => Below.heap_setCell _ _ _ _ (fun e => hn (by simp [e]))⟩ (by simpa using hp)
theorem Chg.alloc {S : List Nat} {a w : World} (h : Chg S a w) (o : Obj) : Chg S a (w.alloc o) :=
  h.trans (T := []) ⟨rfl, rfl, rfl, by simp, fun k hk _ => Below.heap_alloc _ _ _ hk⟩ (by simp)
theorem Chg.drew {S : List Nat} {a w : World} (h : Chg S a w) : Chg S a w.drew := ⟨h.os, h.tape, h.output, h.size, h.block⟩
theorem Blk.chg {w w' : World} {S : List Nat} {g : Nat} {e : TypeId} {cur : Array Value} (h : Blk w g e cur) (hc : Chg S w w') (hn : g ∉ S) : Blk w' g e cur := h.of_same (hc.block g h.lt hn)

def Lay.cs (l : Lay) : List Value := [.int .i64 l.seq, .string l.lot, .int .i64 l.qty, .int .i64 l.val]
def Pst.cs (p : Pst) : List Value := [.int .i64 p.seq, .int .i64 p.kind, .string p.lot, .int .i64 p.qty, .int .i64 p.val, .int .i64 p.used, .int .i64 p.uval]
def laysC (ls : List Lay) : List Value := ls.flatMap Lay.cs
def pstsC (ps : List Pst) : List Value := ps.flatMap Pst.cs

theorem laysC_length (ls : List Lay) : (laysC ls).length = ls.length * 4 := by
  induction ls with
  | nil => rfl
  | cons l ls ih => simp only [laysC, List.flatMap_cons, List.length_append] at *; rw [ih]; simp [Lay.cs]; omega
theorem pstsC_length (ps : List Pst) : (pstsC ps).length = ps.length * 7 := by
  induction ps with
  | nil => rfl
  | cons l ls ih => simp only [pstsC, List.flatMap_cons, List.length_append] at *; rw [ih]; simp [Pst.cs]; omega
theorem laysC_append (a b : List Lay) : laysC (a ++ b) = laysC a ++ laysC b := by simp [laysC]
theorem pstsC_append (a b : List Pst) : pstsC (a ++ b) = pstsC a ++ pstsC b := by simp [pstsC]

theorem laysC_get (ls : List Lay) : ∀ (i : Nat) (j : Nat), i < ls.length → j < 4 → (laysC ls)[i * 4 + j]? = (ls.getD i zLay).cs[j]? := by
  induction ls with
  | nil => intro i j hi; simp at hi
  | cons l ls ih =>
    intro i j hi hj
    simp only [laysC, List.flatMap_cons]
    cases i with
    | zero =>
      rw [List.getElem?_append_left (by simp [Lay.cs]; omega)]
      simp
    | succ i =>
      rw [List.getElem?_append_right (by simp [Lay.cs]; omega)]
      have h1 : (i + 1) * 4 + j - l.cs.length = i * 4 + j := by simp [Lay.cs]; omega
      rw [h1]
      have := ih i j (by simpa using hi) hj
      simp only [laysC] at this
      simpa using this
theorem pstsC_get (ps : List Pst) : ∀ (i : Nat) (j : Nat), i < ps.length → j < 7 → (pstsC ps)[i * 7 + j]? = (ps.getD i zPst).cs[j]? := by
  induction ps with
  | nil => intro i j hi; simp at hi
  | cons l ls ih =>
    intro i j hi hj
    simp only [pstsC, List.flatMap_cons]
    cases i with
    | zero =>
      rw [List.getElem?_append_left (by simp [Pst.cs]; omega)]
      simp
    | succ i =>
      rw [List.getElem?_append_right (by simp [Pst.cs]; omega)]
      have h1 : (i + 1) * 7 + j - l.cs.length = i * 7 + j := by simp [Pst.cs]; omega
      rw [h1]
      have := ih i j (by simpa using hi) hj
      simp only [pstsC] at this
      simpa using this

/-- the slice of n elements of k cells each that starts block g reads as these cells; c: its capacity -/
structure Row (w : World) (g : Nat) (e : TypeId) (k n c : Nat) (cs : List Value) (cur : Array Value) : Prop where
  blk : Blk w g e cur
  nc : n ≤ c
  cm : c ≤ maxLen
  sz : c * k ≤ cur.size
  take : cur.toList.take (n * k) = cs
  len : cs.length = n * k

theorem Row.get {w : World} {g : Nat} {e : TypeId} {k n c : Nat} {cs : List Value} {cur : Array Value} (h : Row w g e k n c cs cur) (o : Nat) (ho : o < n * k) : w.cell? ⟨g, o, none⟩ = cs[o]? := by
  rw [h.blk.cell, ← h.take, List.getElem?_take, if_pos ho]
  simp

/-- a row of layers, of the past -/
abbrev LRow (w : World) (g c : Nat) (ls : List Lay) (cur : Array Value) : Prop := Row w g 44 4 ls.length c (laysC ls) cur
abbrev PRow (w : World) (g c : Nat) (ps : List Pst) (cur : Array Value) : Prop := Row w g 51 7 ps.length c (pstsC ps) cur

theorem Row.lay {w : World} {g c : Nat} {ls : List Lay} {cur : Array Value} (h : LRow w g c ls cur) (i : Nat) (hi : i < ls.length) :
    w.cell? ⟨g, i * 4, none⟩ = some (.int .i64 (ls.getD i zLay).seq) ∧ w.cell? ⟨g, i * 4 + 1, none⟩ = some (.string (ls.getD i zLay).lot) ∧
    w.cell? ⟨g, i * 4 + 2, none⟩ = some (.int .i64 (ls.getD i zLay).qty) ∧ w.cell? ⟨g, i * 4 + 3, none⟩ = some (.int .i64 (ls.getD i zLay).val) := by
  refine ⟨?_, ?_, ?_, ?_⟩
  · rw [h.get _ (by omega)]; exact laysC_get ls i 0 hi (by decide)
  · rw [h.get _ (by omega)]; exact laysC_get ls i 1 hi (by decide)
  · rw [h.get _ (by omega)]; exact laysC_get ls i 2 hi (by decide)
  · rw [h.get _ (by omega)]; exact laysC_get ls i 3 hi (by decide)
theorem Row.pst {w : World} {g c : Nat} {ps : List Pst} {cur : Array Value} (h : PRow w g c ps cur) (i : Nat) (hi : i < ps.length) :
    w.cell? ⟨g, i * 7, none⟩ = some (.int .i64 (ps.getD i zPst).seq) ∧ w.cell? ⟨g, i * 7 + 1, none⟩ = some (.int .i64 (ps.getD i zPst).kind) ∧
    w.cell? ⟨g, i * 7 + 2, none⟩ = some (.string (ps.getD i zPst).lot) ∧ w.cell? ⟨g, i * 7 + 3, none⟩ = some (.int .i64 (ps.getD i zPst).qty) ∧
    w.cell? ⟨g, i * 7 + 4, none⟩ = some (.int .i64 (ps.getD i zPst).val) ∧ w.cell? ⟨g, i * 7 + 5, none⟩ = some (.int .i64 (ps.getD i zPst).used) ∧
    w.cell? ⟨g, i * 7 + 6, none⟩ = some (.int .i64 (ps.getD i zPst).uval) := by
  refine ⟨?_, ?_, ?_, ?_, ?_, ?_, ?_⟩
  · rw [h.get _ (by omega)]; exact pstsC_get ps i 0 hi (by decide)
  · rw [h.get _ (by omega)]; exact pstsC_get ps i 1 hi (by decide)
  · rw [h.get _ (by omega)]; exact pstsC_get ps i 2 hi (by decide)
  · rw [h.get _ (by omega)]; exact pstsC_get ps i 3 hi (by decide)
  · rw [h.get _ (by omega)]; exact pstsC_get ps i 4 hi (by decide)
  · rw [h.get _ (by omega)]; exact pstsC_get ps i 5 hi (by decide)
  · rw [h.get _ (by omega)]; exact pstsC_get ps i 6 hi (by decide)

/-- the computation's own struct: the state, the movement, the costs -/
abbrev xCells (q v p : Int) (vl vp : Value) (m : Mov) (c : Cst) : Array Value :=
  #[.int .i64 q, .int .i64 v, .int .i64 p, vl, vp, .int .i64 m.seq, .int .i64 m.value, .string m.item, .int .i64 m.kind, .int .i64 m.qty, .int .i64 m.cost, .string m.lot, .int .i64 m.ref, .int .i64 c.seq, .int .i64 c.qty, .int .i64 c.val, .int .i64 c.var]
abbrev sl (g n c : Nat) : Value := .slice (some ⟨g, 0, none⟩) n c

/-- the computation's struct, its layers and its past, each in a block of its own -/
structure St (w : World) (gx gl gp cl cp : Nat) (s : Stk) (m : Mov) (c : Cst) (kl kp : Array Value) : Prop where
  x : Blk w gx 62 (xCells s.qty s.val s.price (sl gl s.lays.length cl) (sl gp s.psts.length cp) m c)
  l : LRow w gl cl s.lays kl
  p : PRow w gp cp s.psts kp
  xl : gx ≠ gl
  xp : gx ≠ gp
  lp : gl ≠ gp
end Go.Proofs.YtboiipkbhbbgfaaDoor
