/- Copying a row of any size; and the walk of cloned. -/
import Derived.Test.YtboiipkbhbbgfaaDoorGa
import Derived.Laws.MakeOwn
import Derived.Laws.CopyOwn
namespace Go.Proofs.YtboiipkbhbbgfaaDoor
open Go.RowKit

/-- a slice of n elements of k cells that reads as cs (nil if it may be) -/
def Rd (w : World) (k : Nat) (v : Value) (n : Nat) (cs : List Value) : Prop :=
  cs.length = n * k ∧ ((v = .slice none 0 0 ∧ n = 0) ∨ ∃ a c, v = .slice (some a) n c ∧ ∀ j u, cs[j]? = some u → w.cell? (a.add j) = some u)
theorem add_block (a : Addr) (j : Nat) : (a.add j).block = a.block := by unfold Addr.add; split <;> rfl
theorem Rd.keep {w w' : World} {k : Nat} {v : Value} {n : Nat} {cs : List Value} (h : Rd w k v n cs) (hk : ∀ a u, w.cell? a = some u → w'.cell? a = some u) : Rd w' k v n cs := by
  refine ⟨h.1, ?_⟩
  rcases h.2 with h | ⟨a, c, hv, hc⟩
  · exact .inl h
  · exact .inr ⟨a, c, hv, fun j u hu => hk _ _ (hc j u hu)⟩
theorem Rd.below {w w' : World} {k : Nat} {v : Value} {n : Nat} {cs : List Value} (h : Rd w k v n cs) (hb : Below w.heap.size w w') : Rd w' k v n cs :=
  h.keep fun a u hu => by rw [hb.cell (World.block_lt_of_cell? w a hu)]; exact hu

section
variable {P : Program}
theorem run_copy_wide (w : World) (dT sT ty elem : TypeId) (g n c k : Nat) (v : Value) (cur : Array Value) (t : TypeId) (cs : List Value)
    (hu : P.underlying dT = some (.slice elem)) (hs : (P.info? elem).map (·.size) = some k)
    (hg : Blk w g t cur) (hr : Rd w k v n cs) (hfit : cs.length ≤ cur.size) (h1 : ∀ v ∈ cs, v.oneCell' = true) :
    ∃ w', (Builtin.copy_ #[dT, sT] ty #[.slice (some ⟨g, 0, none⟩) n c, v]).run P w = .ok (goInt n) w' ∧ Blk w' g t (cs ++ cur.toList.drop cs.length).toArray ∧ Chg [g] w w' := by
  cases hq : P.info? elem with
  | none => simp [hq] at hs
  | some i =>
    have hi : i.size = k := by simpa [hq] using hs
    rcases hr.2 with ⟨rfl, rfl⟩ | ⟨a, c2, rfl, hsrc⟩
    · have hcs : cs = [] := List.eq_nil_of_length_eq_zero (by rw [hr.1]; simp)
      subst hcs
      exact ⟨w, by simp [Builtin.copy_, run_underlying hu, Builtin.lenOf, Builtin.firstCells, sizeOf, typeInfo, hq, storeCells], by simpa using hg, Chg.refl _ _⟩
    · have hl := run_loadCells_list (P := P) w a cs hsrc
      have hst := run_storeCells_at P g 0 t cs 0 cur w hg (by simpa using hfit) h1
      refine ⟨_, ?_, setRow_heap w g cur _ t _ hg, ⟨rfl, rfl, rfl, by simp, fun j _ hj => setRow_other w g j _ (by simpa using hj)⟩⟩
      rw [hr.1] at hl
      simp [Builtin.copy_, run_underlying hu, Builtin.lenOf, Builtin.firstCells, sizeOf, typeInfo, hq, hi, hl, hst]

theorem wpList_copy_wide {w : World} {ops : Array Oper} {rest : List Oper} {o : Oper} {a : Act} {Q : Exit → Act → World → Prop} (hgd : o.guard = none) (d s : Operand) (dT sT : TypeId)
    (ho : o.op = .call { callee := .builtin .copy, args := #[d, s], argTypes := #[dT, sT] }) (elem : TypeId) (k : Nat) (hu : P.underlying dT = some (.slice elem)) (hsz : (P.info? elem).map (·.size) = some k)
    (g n c : Nat) (v : Value) (cur : Array Value) (t : TypeId) (cs : List Value) (hd : a.eval d = .slice (some ⟨g, 0, none⟩) n c) (hs : a.eval s = v)
    (hg : Blk w g t cur) (hr : Rd w k v n cs) (hfit : cs.length ≤ cur.size) (h1 : ∀ v ∈ cs, v.oneCell' = true)
    (h : ∀ w', Blk w' g t (cs ++ cur.toList.drop cs.length).toArray → Chg [g] w w' → wpList P ops Q rest (a.put o.dst (goInt n)) w') : wpList P ops Q (o :: rest) a w := by
  refine wpList_plain hgd fun K hK => ?_
  obtain ⟨w', hrun, h2, h3⟩ := run_copy_wide (P := P) w dT sT o.type elem g n c k v cur t cs hu hsz hg hr hfit h1
  unfold Oper.wp
  simp [execOp, ho, resolve, invoke, builtin, hd, hs, hrun, Result.andThen]
  exact hK _ _ (h w' h2 h3)
end

theorem pstsC_one (ls : List Pst) : ∀ v ∈ pstsC ls, v.oneCell' = true := by
  intro v hv
  simp only [pstsC, List.mem_flatMap] at hv
  obtain ⟨l, _, hl⟩ := hv
  simp [Pst.cs] at hl
  rcases hl with rfl | rfl | rfl | rfl | rfl | rfl | rfl <;> rfl
theorem sz44 : (Tryd.prog.info? 44).map (·.size) = some 4 := by kernel_rfl
theorem sz51 : (Tryd.prog.info? 51).map (·.size) = some 7 := by kernel_rfl
theorem row_made {w : World} {g : Nat} {e : TypeId} {k n : Nat} {cs : List Value} {rest : List Value} (h : Blk w g e (cs ++ rest).toArray) (hl : cs.length = n * k) (hn : n ≤ 1000) : Row w g e k n n cs (cs ++ rest).toArray :=
  ⟨h, Nat.le_refl _, by simp [maxLen]; omega, by simp [hl], by simp [← hl], hl⟩
abbrev stkA (q v p : Int) (vl vp : Value) : Array Value := #[.int .i64 q, .int .i64 v, .int .i64 p, vl, vp]
abbrev stkZ : Array Value := #[.int .i64 0, .int .i64 0, .int .i64 0, .slice none 0 0, .slice none 0 0]
abbrev mkL (n : Nat) : Array Value := madeCells #[.int .i64 0, .string ⟨#[]⟩, .int .i64 0, .int .i64 0] (n * 4)
abbrev mkP (n : Nat) : Array Value := madeCells #[.int .i64 0, .int .i64 0, .string ⟨#[]⟩, .int .i64 0, .int .i64 0, .int .i64 0, .int .i64 0] (n * 7)

set_option maxRecDepth 100000 in
set_option maxHeartbeats 4000000 in
theorem cloned_any (q v p : Int) (vl vp : Value) (ls : List Lay) (ps : List Pst) (w : World) (hl : Rd w 4 vl ls.length (laysC ls)) (hp : Rd w 7 vp ps.length (pstsC ps)) (hn : ls.length ≤ 1000) (hnp : ps.length ≤ 1000) :
    Calls Tryd.prog 27 #[.agg #[.int .i64 q, .int .i64 v, .int .i64 p, vl, vp]] w fun e w' => ∃ gl gp kl kp, e = .returned (.agg #[.int .i64 q, .int .i64 v, .int .i64 p, sl gl ls.length ls.length, sl gp ps.length ps.length]) ∧ Below w.heap.size w w' ∧
      LRow w' gl ls.length ls kl ∧ PRow w' gp ps.length ps kp ∧ gl ≠ gp ∧ w.heap.size ≤ gl ∧ w.heap.size ≤ gp := by
  obtain ⟨i0, hi0, hz0, hz1, hz2⟩ := info_parts Tryd.info44
  obtain ⟨i1, hi1, hz10, hz11, hz12⟩ := info_parts Tryd.info51
  have mk1 : ∀ w, (Instr.makeSlice 29 (.int .i64 (ls.length : Int)) (.int .i64 (ls.length : Int))).run Tryd.prog w = .ok (.slice (some ⟨w.heap.size, 0, none⟩) ls.length ls.length) (w.alloc (.cells (madeCells #[.int .i64 0, .string ⟨#[]⟩, .int .i64 0, .int .i64 0] (ls.length * 4)) 44)) := by
    intro w
    have := run_make (P := Tryd.prog) w 29 44 i0 _ Tryd.underlying29 hi0 hz0 .i64 .i64 (ls.length : Int) (ls.length : Int) (by omega) (by omega) (by rw [hz2]; omega) (by omega)
    rw [this, hz1]
    rfl
  have mk2 : ∀ w, (Instr.makeSlice 30 (.int .i64 (ps.length : Int)) (.int .i64 (ps.length : Int))).run Tryd.prog w = .ok (.slice (some ⟨w.heap.size, 0, none⟩) ps.length ps.length) (w.alloc (.cells (madeCells #[.int .i64 0, .int .i64 0, .string ⟨#[]⟩, .int .i64 0, .int .i64 0, .int .i64 0, .int .i64 0] (ps.length * 7)) 51)) := by
    intro w
    have := run_make (P := Tryd.prog) w 30 51 i1 _ Tryd.underlying30 hi1 hz10 .i64 .i64 (ps.length : Int) (ps.length : Int) (by omega) (by omega) (by rw [hz12]; omega) (by omega)
    rw [this, hz11]
    rfl
  have ln1 : ∀ w, (Builtin.len_ #[29] 3 #[vl]).run Tryd.prog w = .ok (.int .i64 (ls.length : Int)) w := by
    intro w
    rcases hl.2 with ⟨rfl, h⟩ | ⟨a, c, rfl, h⟩
    · rw [h]; simp [Builtin.len_, run_underlying Tryd.underlying29, goInt]
    · simp [Builtin.len_, run_underlying Tryd.underlying29, goInt]
  have ln2 : ∀ w, (Builtin.len_ #[30] 3 #[vp]).run Tryd.prog w = .ok (.int .i64 (ps.length : Int)) w := by
    intro w
    rcases hp.2 with ⟨rfl, h⟩ | ⟨a, c, rfl, h⟩
    · rw [h]; simp [Builtin.len_, run_underlying Tryd.underlying30, goInt]
    · simp [Builtin.len_, run_underlying Tryd.underlying30, goInt]
  have HLd := Lib.hid hl; have HPd := Lib.hid hp; clear hl hp
  go_enter Tryd.func27, Tryd.ntmps27
  go_wp2_with fail
  go_region_held3 (fun w' => w'.cell? ⟨w.heap.size, 3, none⟩ = some vl ∧ w'.cell? ⟨w.heap.size, 4, none⟩ = some vp) (go_keep) (fail)
  · generalize hW : ((((w.alloc (.cells (stkA q v p vl vp) 32)).alloc (.cells stkZ 32)).alloc (.cells (mkL ls.length) 44)).alloc (.cells (mkP ps.length) 51)).drew = W at *
    have hWs : W.heap.size = w.heap.size + 4 := by rw [← hW]; simp
    have hc0 : Below w.heap.size w W := by rw [← hW]; exact ((((((Below.refl _ _).alloc (by simp) _).alloc (by simp <;> omega) _).alloc (by simp <;> omega) _).alloc (by simp <;> omega) _).drew)
    have hA : Blk W w.heap.size 32 (stkA q v p vl vp) := by rw [← hW]; exact (((((Blk.new w 32 _).alloc _).alloc _).alloc _).drew)
    have hZ : Blk W (w.heap.size + 1) 32 stkZ := by rw [← hW]; exact ((((Blk.new2 w _ 32 _).alloc _).alloc _).drew)
    have hG : Blk W (w.heap.size + 1 + 1) 44 (mkL ls.length) := by rw [← hW]; have := (((Blk.new2 (w.alloc (.cells (stkA q v p vl vp) 32)) (.cells stkZ 32) 44 (mkL ls.length)).alloc (.cells (mkP ps.length) 51)).drew); simpa using this
    have hP : Blk W (w.heap.size + 1 + 1 + 1) 51 (mkP ps.length) := by rw [← hW]; have := ((Blk.new2 ((w.alloc (.cells (stkA q v p vl vp) 32)).alloc (.cells stkZ 32)) (.cells (mkL ls.length) 44) 51 (mkP ps.length)).drew); simpa using this
    clear hW mk1 mk2 ln1 ln2 
    have c3 : W.cell? ⟨w.heap.size, 3, none⟩ = some vl := by rw [hA.cell]; rfl
    have c4 : W.cell? ⟨w.heap.size, 4, none⟩ = some vp := by rw [hA.cell]; rfl
    have HA := Lib.hid hA; have HZ := Lib.hid hZ; have HG := Lib.hid hG; have HP := Lib.hid hP; clear hA hZ hG hP
    obtain ⟨w2, hrun2, hG2, hc2⟩ := run_copy_wide (P := Tryd.prog) W 29 29 3 44 (w.heap.size + 1 + 1) ls.length ls.length 4 vl (mkL ls.length) 44 (laysC ls) Tryd.underlying29 sz44 HG.out (HLd.out.below hc0) (by rw [laysC_length, size_madeCells]; omega) (laysC_one _)
    have hc2' : Below w.heap.size w w2 := hc0.trans (hc2.below (by omega) (by simp <;> omega))
    have hA2 := HA.out.chg hc2 (by simp <;> omega)
    have hZ2 := HZ.out.chg hc2 (by simp <;> omega)
    have hP2 := HP.out.chg hc2 (by simp <;> omega)
    have d4 : w2.cell? ⟨w.heap.size, 4, none⟩ = some vp := by rw [hA2.cell]; rfl
    obtain ⟨w3, hrun3, hP3, hc3⟩ := run_copy_wide (P := Tryd.prog) w2 30 30 3 51 (w.heap.size + 1 + 1 + 1) ps.length ps.length 7 vp (mkP ps.length) 51 (pstsC ps) Tryd.underlying30 sz51 hP2 (HPd.out.below hc2') (by rw [pstsC_length, size_madeCells]; omega) (pstsC_one _)
    have hc3' : Below w.heap.size w w3 := hc2'.trans (hc3.below (by have := hc2'.size; omega) (by simp <;> omega))
    have hA3 := hA2.chg hc3 (by simp <;> omega)
    have hZ3 := hZ2.chg hc3 (by simp <;> omega)
    have hG3 := hG2.chg hc3 (by simp <;> omega)
    have a0 : w3.cell? ⟨w.heap.size, 0, none⟩ = some (.int .i64 q) := by rw [hA3.cell]; rfl
    have a1 : w3.cell? ⟨w.heap.size, 1, none⟩ = some (.int .i64 v) := by rw [hA3.cell]; rfl
    have a2 : w3.cell? ⟨w.heap.size, 2, none⟩ = some (.int .i64 p) := by rw [hA3.cell]; rfl
    have a3 : w3.cell? ⟨w.heap.size, 3, none⟩ = some vl := by rw [hA3.cell]; rfl
    have a4 : w3.cell? ⟨w.heap.size, 4, none⟩ = some vp := by rw [hA3.cell]; rfl
    have z0 : w3.cell? ⟨w.heap.size + 1, 0, none⟩ = some (.int .i64 0) := by rw [hZ3.cell]; rfl
    have z1 : w3.cell? ⟨w.heap.size + 1, 1, none⟩ = some (.int .i64 0) := by rw [hZ3.cell]; rfl
    have z2 : w3.cell? ⟨w.heap.size + 1, 2, none⟩ = some (.int .i64 0) := by rw [hZ3.cell]; rfl
    have z3 : w3.cell? ⟨w.heap.size + 1, 3, none⟩ = some (.slice none 0 0) := by rw [hZ3.cell]; rfl
    have z4 : w3.cell? ⟨w.heap.size + 1, 4, none⟩ = some (.slice none 0 0) := by rw [hZ3.cell]; rfl
    have fA := fun o => hA3.frozen o
    have fZ := fun o => hZ3.frozen o
    have HG3 := Lib.hid hG3; have HP3 := Lib.hid hP3; have HC3 := Lib.hid hc3'
    clear hG2 hc2 hc2' hA2 hZ2 hP2 hP3 hc3 hc3' hA3 hZ3 hG3 hc0 hWs
    go_wp2_with fail
    refine bodyPost_ret (v := .agg #[.int .i64 q, .int .i64 v, .int .i64 p, sl (w.heap.size + 1 + 1) ls.length ls.length, sl (w.heap.size + 1 + 1 + 1) ps.length ps.length]) (by simp [results, Tryd.results27, go_sem, *]) rfl ⟨w.heap.size + 1 + 1, w.heap.size + 1 + 1 + 1, (laysC ls ++ List.drop (laysC ls).length (mkL ls.length).toList).toArray, (pstsC ps ++ List.drop (pstsC ps).length (mkP ps.length).toList).toArray, rfl, ?_, ?_, ?_, by omega, by omega, by omega⟩
    · exact (((((((HC3.out.setCell (by simp) _).setCell (by simp) _).setCell (by simp) _).setCell (by simp) _).setCell (by simp) _).setCell (by simp) _).setCell (by simp) _)
    · exact row_made (((((((HG3.out.set_other _ (by simp <;> omega)).set_other _ (by simp <;> omega)).set_other _ (by simp <;> omega)).set_other _ (by simp <;> omega)).set_other _ (by simp <;> omega)).set_other _ (by simp <;> omega)).set_other _ (by simp <;> omega)) (laysC_length _) (by omega)
    · exact row_made (((((((HP3.out.set_other _ (by simp <;> omega)).set_other _ (by simp <;> omega)).set_other _ (by simp <;> omega)).set_other _ (by simp <;> omega)).set_other _ (by simp <;> omega)).set_other _ (by simp <;> omega)).set_other _ (by simp <;> omega)) (pstsC_length _) (by omega)
  · generalize hW : ((((w.alloc (.cells (stkA q v p vl vp) 32)).alloc (.cells stkZ 32)).alloc (.cells (mkP ps.length) 51)).alloc (.cells (mkL ls.length) 44)).drew = W at *
    have hWs : W.heap.size = w.heap.size + 4 := by rw [← hW]; simp
    have hc0 : Below w.heap.size w W := by rw [← hW]; exact ((((((Below.refl _ _).alloc (by simp) _).alloc (by simp <;> omega) _).alloc (by simp <;> omega) _).alloc (by simp <;> omega) _).drew)
    have hA : Blk W w.heap.size 32 (stkA q v p vl vp) := by rw [← hW]; exact (((((Blk.new w 32 _).alloc _).alloc _).alloc _).drew)
    have hZ : Blk W (w.heap.size + 1) 32 stkZ := by rw [← hW]; exact ((((Blk.new2 w _ 32 _).alloc _).alloc _).drew)
    have hG : Blk W (w.heap.size + 1 + 1) 51 (mkP ps.length) := by rw [← hW]; have := (((Blk.new2 (w.alloc (.cells (stkA q v p vl vp) 32)) (.cells stkZ 32) 51 (mkP ps.length)).alloc (.cells (mkL ls.length) 44)).drew); simpa using this
    have hP : Blk W (w.heap.size + 1 + 1 + 1) 44 (mkL ls.length) := by rw [← hW]; have := ((Blk.new2 ((w.alloc (.cells (stkA q v p vl vp) 32)).alloc (.cells stkZ 32)) (.cells (mkP ps.length) 51) 44 (mkL ls.length)).drew); simpa using this
    clear hW mk1 mk2 ln1 ln2 
    have c3 : W.cell? ⟨w.heap.size, 3, none⟩ = some vl := by rw [hA.cell]; rfl
    have c4 : W.cell? ⟨w.heap.size, 4, none⟩ = some vp := by rw [hA.cell]; rfl
    have HA := Lib.hid hA; have HZ := Lib.hid hZ; have HG := Lib.hid hG; have HP := Lib.hid hP; clear hA hZ hG hP
    obtain ⟨w2, hrun2, hG2, hc2⟩ := run_copy_wide (P := Tryd.prog) W 29 29 3 44 (w.heap.size + 1 + 1 + 1) ls.length ls.length 4 vl (mkL ls.length) 44 (laysC ls) Tryd.underlying29 sz44 HP.out (HLd.out.below hc0) (by rw [laysC_length, size_madeCells]; omega) (laysC_one _)
    have hc2' : Below w.heap.size w w2 := hc0.trans (hc2.below (by omega) (by simp <;> omega))
    have hA2 := HA.out.chg hc2 (by simp <;> omega)
    have hZ2 := HZ.out.chg hc2 (by simp <;> omega)
    have hP2 := HG.out.chg hc2 (by simp <;> omega)
    have d4 : w2.cell? ⟨w.heap.size, 4, none⟩ = some vp := by rw [hA2.cell]; rfl
    obtain ⟨w3, hrun3, hP3, hc3⟩ := run_copy_wide (P := Tryd.prog) w2 30 30 3 51 (w.heap.size + 1 + 1) ps.length ps.length 7 vp (mkP ps.length) 51 (pstsC ps) Tryd.underlying30 sz51 hP2 (HPd.out.below hc2') (by rw [pstsC_length, size_madeCells]; omega) (pstsC_one _)
    have hc3' : Below w.heap.size w w3 := hc2'.trans (hc3.below (by have := hc2'.size; omega) (by simp <;> omega))
    have hA3 := hA2.chg hc3 (by simp <;> omega)
    have hZ3 := hZ2.chg hc3 (by simp <;> omega)
    have hG3 := hG2.chg hc3 (by simp <;> omega)
    have a0 : w3.cell? ⟨w.heap.size, 0, none⟩ = some (.int .i64 q) := by rw [hA3.cell]; rfl
    have a1 : w3.cell? ⟨w.heap.size, 1, none⟩ = some (.int .i64 v) := by rw [hA3.cell]; rfl
    have a2 : w3.cell? ⟨w.heap.size, 2, none⟩ = some (.int .i64 p) := by rw [hA3.cell]; rfl
    have a3 : w3.cell? ⟨w.heap.size, 3, none⟩ = some vl := by rw [hA3.cell]; rfl
    have a4 : w3.cell? ⟨w.heap.size, 4, none⟩ = some vp := by rw [hA3.cell]; rfl
    have z0 : w3.cell? ⟨w.heap.size + 1, 0, none⟩ = some (.int .i64 0) := by rw [hZ3.cell]; rfl
    have z1 : w3.cell? ⟨w.heap.size + 1, 1, none⟩ = some (.int .i64 0) := by rw [hZ3.cell]; rfl
    have z2 : w3.cell? ⟨w.heap.size + 1, 2, none⟩ = some (.int .i64 0) := by rw [hZ3.cell]; rfl
    have z3 : w3.cell? ⟨w.heap.size + 1, 3, none⟩ = some (.slice none 0 0) := by rw [hZ3.cell]; rfl
    have z4 : w3.cell? ⟨w.heap.size + 1, 4, none⟩ = some (.slice none 0 0) := by rw [hZ3.cell]; rfl
    have fA := fun o => hA3.frozen o
    have fZ := fun o => hZ3.frozen o
    have HG3 := Lib.hid hG3; have HP3 := Lib.hid hP3; have HC3 := Lib.hid hc3'
    clear hG2 hc2 hc2' hA2 hZ2 hP2 hP3 hc3 hc3' hA3 hZ3 hG3 hc0 hWs
    go_wp2_with fail
    refine bodyPost_ret (v := .agg #[.int .i64 q, .int .i64 v, .int .i64 p, sl (w.heap.size + 1 + 1 + 1) ls.length ls.length, sl (w.heap.size + 1 + 1) ps.length ps.length]) (by simp [results, Tryd.results27, go_sem, *]) rfl ⟨w.heap.size + 1 + 1 + 1, w.heap.size + 1 + 1, (laysC ls ++ List.drop (laysC ls).length (mkL ls.length).toList).toArray, (pstsC ps ++ List.drop (pstsC ps).length (mkP ps.length).toList).toArray, rfl, ?_, ?_, ?_, by omega, by omega, by omega⟩
    · exact (((((((HC3.out.setCell (by simp) _).setCell (by simp) _).setCell (by simp) _).setCell (by simp) _).setCell (by simp) _).setCell (by simp) _).setCell (by simp) _)
    · exact row_made (((((((HG3.out.set_other _ (by simp <;> omega)).set_other _ (by simp <;> omega)).set_other _ (by simp <;> omega)).set_other _ (by simp <;> omega)).set_other _ (by simp <;> omega)).set_other _ (by simp <;> omega)).set_other _ (by simp <;> omega)) (laysC_length _) (by omega)
    · exact row_made (((((((HP3.out.set_other _ (by simp <;> omega)).set_other _ (by simp <;> omega)).set_other _ (by simp <;> omega)).set_other _ (by simp <;> omega)).set_other _ (by simp <;> omega)).set_other _ (by simp <;> omega)).set_other _ (by simp <;> omega)) (pstsC_length _) (by omega)
end Go.Proofs.YtboiipkbhbbgfaaDoor
