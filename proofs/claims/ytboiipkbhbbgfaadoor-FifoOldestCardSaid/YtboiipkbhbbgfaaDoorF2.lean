/- Writing into a row: append, a cell; and a state's blocks as one statement, wherever they lie. -/
import Derived.Test.YtboiipkbhbbgfaaDoorF1
import Derived.Deep.AppendLies
namespace Go.Proofs.YtboiipkbhbbgfaaDoor
open Go.RowKit

theorem w64 (n : Int) : IntKind.i64.wrap n = wrap64 n := by rw [IntKind.wrap_i64, wrap64]
theorem i64_id (n : Int) (h0 : -9223372036854775808 ≤ n) (h1 : n ≤ 9223372036854775807) : IntKind.i64.wrap n = n := by
  simp [IntKind.wrap_i64]; omega

theorem Row.blk_lt {w : World} {g : Nat} {e : TypeId} {k n c : Nat} {cs : List Value} {cur : Array Value} (h : Row w g e k n c cs cur) : g < w.heap.size := h.blk.lt
theorem Row.of_blk {w w' : World} {g : Nat} {e : TypeId} {k n c : Nat} {cs : List Value} {cur : Array Value} (h : Row w g e k n c cs cur) (hb : Blk w' g e cur) : Row w' g e k n c cs cur := ⟨hb, h.nc, h.cm, h.sz, h.take, h.len⟩
theorem Row.set {w : World} {g : Nat} {e : TypeId} {k n c : Nat} {cs : List Value} {cur : Array Value} (h : Row w g e k n c cs cur) (o : Nat) (v : Value) : Row (w.setCell ⟨g, o, none⟩ v) g e k n c (cs.set o v) (cur.setIfInBounds o v) :=
  ⟨h.blk.set o v, h.nc, h.cm, by simpa using h.sz, by rw [Array.toList_setIfInBounds, List.take_set, h.take], by simpa using h.len⟩

section
variable {P : Program} (w : World)
/-- append onto a row, whatever its capacity -/
theorem run_append_row (t ty : TypeId) (e : TypeId) (i : TypeInfo) (z : Value) (size bytes : Nat) (ht : P.underlying t = some (.slice e)) (hi : P.info? e = some i) (hz : i.zero = some z)
    (hsize : i.size = size) (hby : i.bytes = bytes) (hzs : z.cells.size = size)
    (g n c : Nat) (xs : List Value) (cur : Array Value) (h : Row w g e size n c xs cur)
    (ad : Addr) (m c2 : Nat) (news : List Value) (hl : news.length = m * size) (hnews : ∀ j u, news[j]? = some u → w.cell? (ad.add j) = some u) (h1 : ∀ u ∈ news, u.oneCell' = true)
    (h63 : n + m ≤ maxLen) (hbytes : (n + m) * bytes ≤ 140737488355328) (H : Nat) (hH : w.heap.size = H) :
    ∃ g' c' cur' w', (Builtin.append_ #[t, t] ty #[.slice (some ⟨g, 0, none⟩) n c, .slice (some ad) m c2]).run P w = .ok (.slice (some ⟨g', 0, none⟩) (n + m) c') w' ∧
      Row w' g' e size (n + m) c' (xs ++ news) cur' ∧ Chg [g] w w' ∧ (g' = g ∨ g' = H) := by
  subst hsize
  subst hby
  have hlen : (xs ++ news).length = (n + m) * i.size := by rw [List.length_append, h.len, hl, Nat.add_mul]
  by_cases hroom : n + m ≤ c
  · have hle := Nat.mul_le_mul_right i.size hroom
    have hsz := h.sz
    have hfit : n * i.size + news.length ≤ cur.size := by rw [hl, ← Nat.add_mul]; omega
    have hr := run_append_room (P := P) w t ty e i ht hi g n c cur h.blk ad m c2 news hl hnews h1 hroom hfit
    refine ⟨g, c, _, _, hr, ⟨setRow_heap w g cur _ e _ h.blk, hroom, h.cm, ?_, ?_, hlen⟩, ⟨rfl, rfl, rfl, by simp, fun k _ hk => setRow_other w g k _ (by simpa using hk)⟩, .inl rfl⟩
    · simp only [List.size_toArray, List.length_append, List.length_take, List.length_drop, Array.length_toList]
      omega
    · rw [h.take, ← hlen]
      exact List.take_left
  · have hsmall : n + m ≤ 9223372036854775807 := by simp only [maxLen] at h63; omega
    have holds : ∀ j u, xs[j]? = some u → w.cell? ((⟨g, 0, none⟩ : Addr).add j) = some u := fun j u hu => by
      have hadd : (⟨g, 0, none⟩ : Addr).add j = ⟨g, j, none⟩ := by unfold Addr.add; split <;> simp_all
      have hj : j < n * i.size := by rw [← h.len]; exact (List.getElem?_eq_some_iff.1 hu).1
      rw [hadd, h.get j hj, hu]
    have hr := run_append_grow (P := P) w t ty e i z ht hi hz ⟨g, 0, none⟩ n c xs h.len holds ad m c2 news hl hnews (by omega) (by omega) (growslice_fits (by omega) hbytes)
    have hge := grownCap_ge w (n + m) c e
    refine ⟨_, _, _, _, hr, ⟨heap_alloc_new w.drew _, hge, grownCap_le_maxLen w (n + m) c e h63, ?_, ?_, hlen⟩, ((Chg.refl [g] w).drew).alloc _, .inr hH⟩
    · simp only [Array.size_append, List.size_toArray, size_zeroCells, hzs, h.len, hl, ← Nat.add_mul]
      exact Nat.mul_le_mul_right _ (by omega)
    · simp only [Array.toList_append, List.append_assoc]
      rw [← List.append_assoc, ← hlen]
      exact List.take_left

theorem step_append_row {ops : Array Oper} {o : Oper} {a : Act} {K : Act → World → Prop} {Q : Exit → Act → World → Prop} {E : Prop} (hgd : o.guard = none) (s x : Operand) (t : TypeId)
    (ho : o.op = .call { callee := .builtin .append, args := #[s, x], argTypes := #[t, t] })
    (e : TypeId) (i : TypeInfo) (z : Value) (size bytes : Nat) (ht : P.underlying t = some (.slice e)) (hi : P.info? e = some i) (hz : i.zero = some z)
    (hsize : i.size = size) (hby : i.bytes = bytes) (hzs : z.cells.size = size)
    (g n c : Nat) (xs : List Value) (cur : Array Value) (hs : a.eval s = .slice (some ⟨g, 0, none⟩) n c) (hrow : Row w g e size n c xs cur)
    (ad : Addr) (m c2 : Nat) (news : List Value) (hx : a.eval x = .slice (some ad) m c2) (hl : news.length = m * size) (hnews : ∀ j u, news[j]? = some u → w.cell? (ad.add j) = some u) (h1 : ∀ u ∈ news, u.oneCell' = true)
    (h63 : n + m ≤ maxLen) (hbytes : (n + m) * bytes ≤ 140737488355328) (H : Nat) (hH : w.heap.size = H)
    (h : ∀ g' c' cur' w', Row w' g' e size (n + m) c' (xs ++ news) cur' → Chg [g] w w' → (g' = g ∨ g' = H) → K (a.put o.dst (.slice (some ⟨g', 0, none⟩) (n + m) c')) w') :
    if Region.wanted o (yielded ops a.tmps) = true then Oper.wp P o a w K Q else E := by
  have hw : Region.wanted o (yielded ops a.tmps) = true := by simp [Region.wanted, hgd]
  rw [if_pos hw]
  obtain ⟨g', c', cur', w', hr, h2, h3, h4⟩ := run_append_row (P := P) w t o.type e i z size bytes ht hi hz hsize hby hzs g n c xs cur hrow ad m c2 news hl hnews h1 h63 hbytes H hH
  unfold Oper.wp execOp
  simp only [ho, resolve, invoke, builtin, Sem.run_bind, Sem.run_pure, Result.andThen_ok, List.map_toArray, List.map_cons, List.map_nil, hs, hx, hr]
  exact h g' c' cur' w' h2 h3 h4
end

theorem laysC_set (ls : List Lay) : ∀ (i j : Nat) (v : Value) (l' : Lay), i < ls.length → j < 4 → (ls.getD i zLay).cs.set j v = l'.cs → (laysC ls).set (i * 4 + j) v = laysC (ls.set i l') := by
  induction ls with
  | nil => intro i j v l' hi; simp at hi
  | cons l ls ih =>
    intro i j v l' hi hj hv
    simp only [laysC, List.flatMap_cons]
    cases i with
    | zero =>
      rw [List.set_append_left _ _ (by simp [Lay.cs]; omega)]
      simp at hv
      simp [hv]
    | succ i =>
      rw [List.set_append_right _ _ (by simp [Lay.cs]; omega)]
      have h1 : (i + 1) * 4 + j - l.cs.length = i * 4 + j := by simp [Lay.cs]; omega
      rw [h1]
      have := ih i j v l' (by simpa using hi) hj (by simpa using hv)
      simp only [laysC] at this
      simp [this]
theorem pstsC_set (ps : List Pst) : ∀ (i j : Nat) (v : Value) (p' : Pst), i < ps.length → j < 7 → (ps.getD i zPst).cs.set j v = p'.cs → (pstsC ps).set (i * 7 + j) v = pstsC (ps.set i p') := by
  induction ps with
  | nil => intro i j v l' hi; simp at hi
  | cons l ls ih =>
    intro i j v l' hi hj hv
    simp only [pstsC, List.flatMap_cons]
    cases i with
    | zero =>
      rw [List.set_append_left _ _ (by simp [Pst.cs]; omega)]
      simp at hv
      simp [hv]
    | succ i =>
      rw [List.set_append_right _ _ (by simp [Pst.cs]; omega)]
      have h1 : (i + 1) * 7 + j - l.cs.length = i * 7 + j := by simp [Pst.cs]; omega
      rw [h1]
      have := ih i j v l' (by simpa using hi) hj (by simpa using hv)
      simp only [pstsC] at this
      simp [this]

theorem St.below {w w' : World} {B gx gl gp cl cp : Nat} {s : Stk} {m : Mov} {c : Cst} {kl kp : Array Value} (h : St w gx gl gp cl cp s m c kl kp) (hb : Below B w w') (hx : gx < B) (hl : gl < B) (hp : gp < B) : St w' gx gl gp cl cp s m c kl kp :=
  ⟨h.x.below hb hx, h.l.of_blk (h.l.blk.below hb hl), h.p.of_blk (h.p.blk.below hb hp), h.xl, h.xp, h.lp⟩
theorem St.below' {w w' : World} {gx gl gp cl cp : Nat} {s : Stk} {m : Mov} {c : Cst} {kl kp : Array Value} (h : St w gx gl gp cl cp s m c kl kp) (hb : Below w.heap.size w w') : St w' gx gl gp cl cp s m c kl kp := h.below hb h.x.lt h.l.blk.lt h.p.blk.lt
theorem St.setx {w : World} {gx gl gp cl cp : Nat} {s s' : Stk} {m : Mov} {c c' : Cst} {kl kp : Array Value} (h : St w gx gl gp cl cp s m c kl kp) (o : Nat) (v : Value)
    (he : (xCells s.qty s.val s.price (sl gl s.lays.length cl) (sl gp s.psts.length cp) m c).setIfInBounds o v = xCells s'.qty s'.val s'.price (sl gl s.lays.length cl) (sl gp s.psts.length cp) m c') (hl : s'.lays = s.lays) (hp : s'.psts = s.psts) :
    St (w.setCell ⟨gx, o, none⟩ v) gx gl gp cl cp s' m c' kl kp := by
  obtain ⟨x, l, p, xl, xp, lp⟩ := h
  refine ⟨?_, ?_, ?_, xl, xp, lp⟩
  · rw [hl, hp, ← he]; exact x.set o v
  · rw [hl]; exact l.of_blk (l.blk.set_other v xl)
  · rw [hp]; exact p.of_blk (p.blk.set_other v xp)
theorem St.setp {w : World} {gx gl gp cl cp : Nat} {s : Stk} {m : Mov} {c : Cst} {kl kp : Array Value} (h : St w gx gl gp cl cp s m c kl kp) (i j : Nat) (v : Value) (p' : Pst) (hi : i < s.psts.length) (hj : j < 7) (hv : (s.psts.getD i zPst).cs.set j v = p'.cs) :
    St (w.setCell ⟨gp, i * 7 + j, none⟩ v) gx gl gp cl cp { s with psts := s.psts.set i p' } m c kl (kp.setIfInBounds (i * 7 + j) v) := by
  obtain ⟨x, l, p, xl, xp, lp⟩ := h
  refine ⟨?_, ?_, ?_, xl, xp, lp⟩
  · have := x.set_other (a := ⟨gp, i * 7 + j, none⟩) v (Ne.symm xp); simpa using this
  · exact l.of_blk (l.blk.set_other v (Ne.symm lp))
  · have := p.set (i * 7 + j) v
    rw [pstsC_set s.psts i j v p' hi hj hv] at this
    simpa [PRow] using this
theorem St.setl {w : World} {gx gl gp cl cp : Nat} {s : Stk} {m : Mov} {c : Cst} {kl kp : Array Value} (h : St w gx gl gp cl cp s m c kl kp) (i j : Nat) (v : Value) (l' : Lay) (hi : i < s.lays.length) (hj : j < 4) (hv : (s.lays.getD i zLay).cs.set j v = l'.cs) :
    St (w.setCell ⟨gl, i * 4 + j, none⟩ v) gx gl gp cl cp { s with lays := s.lays.set i l' } m c (kl.setIfInBounds (i * 4 + j) v) kp := by
  obtain ⟨x, l, p, xl, xp, lp⟩ := h
  refine ⟨?_, ?_, ?_, xl, xp, lp⟩
  · have := x.set_other (a := ⟨gl, i * 4 + j, none⟩) v (Ne.symm xl); simpa using this
  · have := l.set (i * 4 + j) v
    rw [laysC_set s.lays i j v l' hi hj hv] at this
    simpa [LRow] using this
  · exact p.of_blk (p.blk.set_other v lp)

theorem Chg.cell {S : List Nat} {w w' : World} (h : Chg S w w') (a : Addr) (hlt : a.block < w.heap.size) (hne : a.block ∉ S) : w'.cell? a = w.cell? a := World.cell?_of_block (h.block a.block hlt hne)
theorem Chg.frozen {S : List Nat} {w w' : World} (h : Chg S w w') (a : Addr) (hlt : a.block < w.heap.size) (hne : a.block ∉ S) : w'.frozen? a = w.frozen? a := World.frozen?_of_block (h.block a.block hlt hne)
theorem Blk.new2 (w : World) (o : Obj) (e : TypeId) (cur : Array Value) : Blk ((w.alloc o).alloc (.cells cur e)) (w.heap.size + 1) e cur := by
  have := Blk.new (w.alloc o) e cur
  simpa using this

/-- a block of which nothing is frozen -/
def Soft (w : World) (g : Nat) : Prop := ∃ e cur, Blk w g e cur
theorem Blk.soft {w : World} {g : Nat} {e : TypeId} {cur : Array Value} (h : Blk w g e cur) : Soft w g := ⟨e, cur, h⟩
theorem Soft.frozen {w : World} {g : Nat} (h : Soft w g) (o : Nat) : w.frozen? ⟨g, o, none⟩ = false := by obtain ⟨e, cur, h⟩ := h; exact h.frozen o
theorem Soft.alloc {w : World} {g : Nat} (h : Soft w g) (o : Obj) : Soft (w.alloc o) g := by obtain ⟨e, cur, h⟩ := h; exact ⟨e, cur, h.alloc o⟩
theorem Soft.drew {w : World} {g : Nat} (h : Soft w g) : Soft w.drew g := h
theorem Soft.set {w : World} {g : Nat} (h : Soft w g) (a : Addr) (v : Value) : Soft (w.setCell a v) g := by
  obtain ⟨e, cur, h⟩ := h
  by_cases hb : a.block = g
  · subst hb
    have hl := h.lt
    unfold Soft Blk at *
    rw [Array.getElem?_eq_getElem hl, Option.some.injEq] at h
    simp only [World.setCell]
    rw [Array.getElem?_eq_getElem (by simpa using hl), Array.getElem_modify, if_pos rfl, h]
    exact ⟨e, _, rfl⟩
  · exact ⟨e, cur, h.set_other v hb⟩
theorem Soft.chg {w w' : World} {S : List Nat} {g : Nat} (h : Soft w g) (hc : Chg S w w') (hn : g ∉ S) : Soft w' g := by obtain ⟨e, cur, h⟩ := h; exact ⟨e, cur, h.chg hc hn⟩

theorem Chg.two {w w1 : World} {g : Nat} {o1 o2 : Obj} (h : Chg [g] ((w.alloc o1).alloc o2).drew w1) : Chg [g] w w1 := ((((Chg.refl [g] w).alloc o1).alloc o2).drew).trans h (fun _x hx => .inl hx)
theorem St.newl {w w1 : World} {gx gl gp cl cp gg cap : Nat} {s : Stk} {m : Mov} {c : Cst} {kl kp cur1 : Array Value} {ls' : List Lay} (h : St w gx gl gp cl cp s m c kl kp) (hc : Chg [gl] w w1) (hr : LRow w1 gg cap ls' cur1) (hat : gg = gl ∨ w.heap.size ≤ gg) :
    St (w1.setCell ⟨gx, 3, none⟩ (sl gg ls'.length cap)) gx gg gp cap cp { s with lays := ls' } m c cur1 kp := by
  obtain ⟨x, l, p, xl, xp, lp⟩ := h
  have h1 := x.lt
  have h2 := p.blk.lt
  have e1 : gx ≠ gg := by rcases hat with rfl | h; exact xl; omega
  have e2 : gg ≠ gp := by rcases hat with rfl | h; exact lp; omega
  refine ⟨?_, hr.of_blk (hr.blk.set_other _ e1), p.of_blk ((p.blk.chg hc (by simpa using Ne.symm lp)).set_other _ xp), e1, xp, e2⟩
  exact (x.chg hc (by simpa using xl)).set 3 (sl gg ls'.length cap)
theorem St.newp {w w1 : World} {gx gl gp cl cp gg cap : Nat} {s : Stk} {m : Mov} {c : Cst} {kl kp cur1 : Array Value} {ps' : List Pst} (h : St w gx gl gp cl cp s m c kl kp) (hc : Chg [gp] w w1) (hr : PRow w1 gg cap ps' cur1) (hat : gg = gp ∨ w.heap.size ≤ gg) :
    St (w1.setCell ⟨gx, 4, none⟩ (sl gg ps'.length cap)) gx gl gg cl cap { s with psts := ps' } m c kl cur1 := by
  obtain ⟨x, l, p, xl, xp, lp⟩ := h
  have h1 := x.lt
  have h2 := l.blk.lt
  have e1 : gx ≠ gg := by rcases hat with rfl | h; exact xp; omega
  have e2 : gl ≠ gg := by rcases hat with rfl | h; exact lp; omega
  refine ⟨?_, l.of_blk ((l.blk.chg hc (by simpa using lp)).set_other _ xl), hr.of_blk (hr.blk.set_other _ e1), xl, e1, e2⟩
  exact (x.chg hc (by simpa using xp)).set 4 (sl gg ps'.length cap)

/-- a state whose blocks all lie from B on -/
def StB (w : World) (B gx : Nat) (s : Stk) (m : Mov) (c : Cst) : Prop :=
  ∃ gl gp cl cp kl kp, St w gx gl gp cl cp s m c kl kp ∧ B ≤ gx ∧ B ≤ gl ∧ B ≤ gp
/-- what a method that changes the layers leaves: a state, wherever its layers lie, and all else as it was -/
def StL (w w' : World) (gx gl gp cp : Nat) (s : Stk) (m : Mov) (c : Cst) (kp : Array Value) : Prop :=
  ∃ gl' cl' kl', St w' gx gl' gp cl' cp s m c kl' kp ∧ Chg [gx, gl] w w' ∧ (gl' = gl ∨ w.heap.size ≤ gl')
theorem St.setx3 {w w1 : World} {gx gl gp cl cp gg cap : Nat} {s : Stk} {m : Mov} {c : Cst} {kl kp cur1 : Array Value} {ls' : List Lay} (h : St w gx gl gp cl cp s m c kl kp)
    (hc : Chg [gl] w w1) (hr : LRow w1 gg cap ls' cur1) (hat : gg = gl ∨ w.heap.size ≤ gg) : StL w (w1.setCell ⟨gx, 3, none⟩ (sl gg ls'.length cap)) gx gl gp cp { s with lays := ls' } m c kp :=
  ⟨gg, cap, cur1, h.newl hc hr hat, (hc.mono (T := [gx, gl]) (by simp)).set (.inl (by simp)) _, hat⟩
theorem StL.trans {w w1 w2 : World} {gx gl gp cp : Nat} {s' : Stk} {m : Mov} {c : Cst} {kp : Array Value} (hc : Chg [gx, gl] w w1) {gl1 : Nat} (hat : gl1 = gl ∨ w.heap.size ≤ gl1) (h : StL w1 w2 gx gl1 gp cp s' m c kp) : StL w w2 gx gl gp cp s' m c kp := by
  obtain ⟨gl', cl', kl', h1, h2, h3⟩ := h
  have := hc.size
  refine ⟨gl', cl', kl', h1, hc.trans h2 ?_, by omega⟩
  intro x hx
  simp at hx
  rcases hx with rfl | rfl
  · simp
  · rcases hat with rfl | hat
    · simp
    · exact .inr hat
theorem StB.below {w w' : World} {B gx : Nat} {s : Stk} {m : Mov} {c : Cst} (h : StB w B gx s m c) (hb : Below w.heap.size w w') : StB w' B gx s m c := by
  obtain ⟨gl, gp, cl, cp, kl, kp, h, h1, h2, h3⟩ := h
  exact ⟨gl, gp, cl, cp, kl, kp, h.below' hb, h1, h2, h3⟩
end Go.Proofs.YtboiipkbhbbgfaaDoor
