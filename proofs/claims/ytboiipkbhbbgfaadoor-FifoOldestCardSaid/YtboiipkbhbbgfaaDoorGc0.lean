/- The walk of Step. -/
import Derived.Test.YtboiipkbhbbgfaaDoorGb
import Derived.Test.YtboiipkbhbbgfaaDoorD3
namespace Go.Proofs.YtboiipkbhbbgfaaDoor
open Go.RowKit

/-- a value that is a row of one's own, from block B on (or nil) -/
def OwnL (w : World) (B : Nat) (v : Value) (ls : List Lay) : Prop := (v = .slice none 0 0 ∧ ls = []) ∨ ∃ g c k, v = sl g ls.length c ∧ B ≤ g ∧ LRow w g c ls k
def OwnP (w : World) (B : Nat) (v : Value) (ps : List Pst) : Prop := (v = .slice none 0 0 ∧ ps = []) ∨ ∃ g c k, v = sl g ps.length c ∧ B ≤ g ∧ PRow w g c ps k
abbrev cstA (c : Cst) : Array Value := #[.int .i64 c.seq, .int .i64 c.qty, .int .i64 c.val, .int .i64 c.var]
abbrev cstZ : Array Value := #[.int .i64 0, .int .i64 0, .int .i64 0, .int .i64 0]
/-- what Step returns -/
def StepPost (r : Res) (w : World) (e : Ending) (w' : World) : Prop :=
  ∃ vl vp, e = .returned (.tuple #[.agg (stkA r.stk.qty r.stk.val r.stk.price vl vp), .agg (cstA r.cst), .int .i64 r.err]) ∧ Below w.heap.size w w' ∧ OwnL w' w.heap.size vl r.stk.lays ∧ OwnP w' w.heap.size vp r.stk.psts
def PstsOk (ps : List Pst) : Prop := ∀ p ∈ ps, I64 p.qty

theorem bad_any (B gx _gl _gp _cl _cp : Nat) (s : Stk) (m : Mov) (_kl _kp : Array Value) (w : World) : Calls Tryd.prog 30 #[] w fun e w' => MPost B gx s m (bad 10 s m) w e w' := by
  go_enter Tryd.func30, Tryd.ntmps30
  go_wp2
  go_ret
  exact ⟨rfl, Below.refl _ _, fun h => by cases h⟩

theorem step_do (s : Stk) (m : Mov) (h1 : oneM m = 0) (h2 : ¬ findM 0 m.seq s.psts < s.psts.length) (o : Out) (ho : doM s m = o) :
    stepM s m = if ¬ o.err = 0 then ⟨o.err, zStk, zCst⟩ else if overM o.lays (wrap64 (s.qty + o.cst.qty)) (wrap64 (s.val + o.cst.val)) o.cst.var then ⟨4, zStk, zCst⟩ else ⟨0, ⟨wrap64 (s.qty + o.cst.qty), wrap64 (s.val + o.cst.val), s.price, o.lays, o.psts⟩, o.cst⟩ := by
  unfold stepM
  rw [if_neg (by simpa using h1), if_neg h2, ho]
theorem issue_len : ∀ (ls : List Lay) (left v : Int), (issueM ls left v).2.length ≤ ls.length
  | [], _, _ => Nat.le_refl _
  | l :: ls, left, v => by
    unfold issueM
    split
    · simp
    · split
      · have := issue_len ls (wrap64 (left - l.qty)) (wrap64 (v + l.val))
        simp; omega
      · simp
theorem take_len (ls : List Lay) (i : Nat) (q : Int) : (takeM ls i q).2.length ≤ ls.length := by
  unfold takeM
  simp only
  split
  · simp only [List.length_append, List.length_take, List.length_drop]; omega
  · simp
theorem do_len (s : Stk) (m : Mov) : (doM s m).lays.length ≤ s.lays.length + 1 := by
  unfold doM
  split
  · simp [receiveM]
  split
  · unfold issueStepM
    split
    · simp [bad]
    · have := issue_len s.lays m.qty 0
      simp only; omega
  split
  · unfold backM
    simp only
    split
    · simp [bad]
    · split
      · simp [bad]
      · simp
  split
  · unfold sendM
    simp only
    split
    · simp [bad]
    · split
      · simp [bad]
      · split
        · simp [bad]
        · have := take_len s.lays (layerM m.ref s.lays) m.qty
          simp only; omega
  split
  · unfold landM
    simp only
    split
    · simp [bad]
    · split
      · simp [bad]
      · split
        · simp
        · (repeat' split) <;> simp [bad]
          all_goals (repeat' split) <;> simp [bad]
  · simp [bad]
theorem errEnd (er : Int) {w w' : World} (hb : Below w.heap.size w w') : StepPost ⟨er, zStk, zCst⟩ w (.returned (.tuple #[.agg stkZ, .agg cstZ, .int .i64 er])) w' :=
  ⟨.slice none 0 0, .slice none 0 0, rfl, hb, .inl ⟨rfl, rfl⟩, .inl ⟨rfl, rfl⟩⟩

set_option maxRecDepth 100000 in
set_option maxHeartbeats 8000000 in
theorem step_bad (s : Stk) (m : Mov) (vl vp : Value) (w : World) (hl : Rd w 4 vl s.lays.length (laysC s.lays)) (hp : Rd w 7 vp s.psts.length (pstsC s.psts)) (hn : s.lays.length ≤ 900) (hnp : s.psts.length ≤ 900)
    (_hok : LaysOk s.lays) (_hpk : PstsOk s.psts) (hq : I64 m.qty) (hcost : I64 m.cost) (hlen : LengthsAt w) (h1 : ¬ oneM m = 0) :
    Calls Tryd.prog 14 #[.agg (stkA s.qty s.val s.price vl vp), m.v] w fun e w' => StepPost (stepM s m) w e w' := by
  have HL := Lib.hid hl; have HP := Lib.hid hp; clear hl hp
  have hcl := fun w hl hp => cloned_any s.qty s.val s.price vl vp s.lays s.psts w hl hp (by omega) (by omega)
  go_enter Tryd.func14, Tryd.ntmps14
  go_wp2_with fail
  generalize hW : ((((w.alloc (.cells (stkA s.qty s.val s.price vl vp) 32)).alloc (.cells (mCells m) 38)).alloc (.cells stkZ 32)).alloc (.cells cstZ 34)) = W at *
  have hWs : W.heap.size = w.heap.size + 4 := by rw [← hW]; simp
  have hc0 : Below w.heap.size w W := by rw [← hW]; exact (((((Below.refl _ _).alloc (by simp) _).alloc (by simp <;> omega) _).alloc (by simp <;> omega) _).alloc (by simp <;> omega) _)
  have hA : Blk W w.heap.size 32 (stkA s.qty s.val s.price vl vp) := by rw [← hW]; exact ((((Blk.new w 32 _).alloc _).alloc _).alloc _)
  have hM : Blk W (w.heap.size + 1) 38 (mCells m) := by rw [← hW]; exact (((Blk.new2 w _ 38 _).alloc _).alloc _)
  have hZ : Blk W (w.heap.size + 1 + 1) 32 stkZ := by rw [← hW]; have := ((Blk.new2 (w.alloc (.cells (stkA s.qty s.val s.price vl vp) 32)) (.cells (mCells m) 38) 32 stkZ).alloc (.cells cstZ 34)); simpa using this
  have hC : Blk W (w.heap.size + 1 + 1 + 1) 34 cstZ := by rw [← hW]; have := Blk.new2 ((w.alloc (.cells (stkA s.qty s.val s.price vl vp) 32)).alloc (.cells (mCells m) 38)) (.cells stkZ 32) 34 cstZ; simpa using this
  clear hW
  have a0 : W.cell? ⟨w.heap.size, 0, none⟩ = some (.int .i64 s.qty) := by rw [hA.cell]; rfl
  have a1 : W.cell? ⟨w.heap.size, 1, none⟩ = some (.int .i64 s.val) := by rw [hA.cell]; rfl
  have a2 : W.cell? ⟨w.heap.size, 2, none⟩ = some (.int .i64 s.price) := by rw [hA.cell]; rfl
  have a3 : W.cell? ⟨w.heap.size, 3, none⟩ = some (vl) := by rw [hA.cell]; rfl
  have a4 : W.cell? ⟨w.heap.size, 4, none⟩ = some (vp) := by rw [hA.cell]; rfl
  have m0 : W.cell? ⟨w.heap.size + 1, 0, none⟩ = some (.int .i64 m.seq) := by rw [hM.cell]; rfl
  have m1 : W.cell? ⟨w.heap.size + 1, 1, none⟩ = some (.int .i64 m.value) := by rw [hM.cell]; rfl
  have m2 : W.cell? ⟨w.heap.size + 1, 2, none⟩ = some (.string m.item) := by rw [hM.cell]; rfl
  have m3 : W.cell? ⟨w.heap.size + 1, 3, none⟩ = some (.int .i64 m.kind) := by rw [hM.cell]; rfl
  have m4 : W.cell? ⟨w.heap.size + 1, 4, none⟩ = some (.int .i64 m.qty) := by rw [hM.cell]; rfl
  have m5 : W.cell? ⟨w.heap.size + 1, 5, none⟩ = some (.int .i64 m.cost) := by rw [hM.cell]; rfl
  have m6 : W.cell? ⟨w.heap.size + 1, 6, none⟩ = some (.string m.lot) := by rw [hM.cell]; rfl
  have m7 : W.cell? ⟨w.heap.size + 1, 7, none⟩ = some (.int .i64 m.ref) := by rw [hM.cell]; rfl
  have rl := (HL.out.below hc0).below (w' := W.drew) (Below.refl _ _).drew
  have rp := (HP.out.below hc0).below (w' := W.drew) (Below.refl _ _).drew
  have HRL := Lib.hid rl; have HRP := Lib.hid rp; clear rl rp
  have HA := Lib.hid hA; have HM := Lib.hid hM; have HZ := Lib.hid hZ; have HC := Lib.hid hC; have HC0 := Lib.hid hc0; clear hA hM hZ hC hc0
  have HLE := Lib.hid hlen; clear hlen
  go_region_held3 (fun w' => w'.cell? ⟨w.heap.size, 0, none⟩ = some (.int .i64 s.qty) ∧ w'.cell? ⟨w.heap.size, 1, none⟩ = some (.int .i64 s.val) ∧ w'.cell? ⟨w.heap.size, 2, none⟩ = some (.int .i64 s.price) ∧ w'.cell? ⟨w.heap.size, 3, none⟩ = some (vl) ∧ w'.cell? ⟨w.heap.size, 4, none⟩ = some (vp) ∧ w'.cell? ⟨w.heap.size + 1, 0, none⟩ = some (.int .i64 m.seq) ∧ w'.cell? ⟨w.heap.size + 1, 1, none⟩ = some (.int .i64 m.value) ∧ w'.cell? ⟨w.heap.size + 1, 2, none⟩ = some (.string m.item) ∧ w'.cell? ⟨w.heap.size + 1, 3, none⟩ = some (.int .i64 m.kind) ∧ w'.cell? ⟨w.heap.size + 1, 4, none⟩ = some (.int .i64 m.qty) ∧ w'.cell? ⟨w.heap.size + 1, 5, none⟩ = some (.int .i64 m.cost) ∧ w'.cell? ⟨w.heap.size + 1, 6, none⟩ = some (.string m.lot) ∧ w'.cell? ⟨w.heap.size + 1, 7, none⟩ = some (.int .i64 m.ref))
    (first | (go_keep; done) | ((try go_split_ands); (repeat' apply And.intro) <;> (first | (go_keep; done) | (rw [hb.cell (by simp <;> omega)]; (first | assumption | (go_keep; done))))))
    ((go_at_call 27; refine (hcl _ HRL.out HRP.out).mono ?_; rintro e w1 ⟨gl, gp, kl, kp, rfl, hb, hlr, hpr, hne, hg1, hg2⟩))
  have hxg : gl ≠ w1.heap.size := Nat.ne_of_lt hlr.blk.lt
  have hxp : gp ≠ w1.heap.size := Nat.ne_of_lt hpr.blk.lt
  have hV0 : St (w1.alloc (.cells (xCells s.qty s.val s.price (sl gl s.lays.length s.lays.length) (sl gp s.psts.length s.psts.length) m (c0 m)) 62)) w1.heap.size gl gp s.lays.length s.psts.length s m (c0 m) kl kp := ⟨Blk.new w1 62 _, hlr.of_blk (hlr.blk.alloc _), hpr.of_blk (hpr.blk.alloc _), Ne.symm hxg, Ne.symm hxp, hne⟩
  have hbV0 : Below W.heap.size W (w1.alloc (.cells (xCells s.qty s.val s.price (sl gl s.lays.length s.lays.length) (sl gp s.psts.length s.psts.length) m (c0 m)) 62)) := (drew_below hb).alloc (drew_below hb).size _
  generalize w1.alloc (.cells (xCells s.qty s.val s.price (sl gl s.lays.length s.lays.length) (sl gp s.psts.length s.psts.length) m (c0 m)) 62) = V at *
  generalize hgx : w1.heap.size = gx at *
  have hgx1 : w.heap.size + 4 ≤ gx := by have := hb.size; simp at this; omega
  have hgl1 : w.heap.size + 4 ≤ gl := by simp at hg1; omega
  have hgp1 : w.heap.size + 4 ≤ gp := by simp at hg2; omega
  have hMV := HM.out.below' hbV0
  have hZV := HZ.out.below' hbV0
  have hCV := HC.out.below' hbV0
  have hBV : Below w.heap.size w V := HC0.out.trans (hbV0.mono (by omega))
  have hSV := hbV0.size
  clear a0 a1 a2 a3 a4 m0 m1 m2 m3 m4 m5 m6 m7 hlr hpr hxg hxp hne hg1 hg2 hb hgx hcl
  rename_i hHeld
  clear hHeld
  have m0 : V.cell? ⟨w.heap.size + 1, 0, none⟩ = some (.int .i64 m.seq) := by rw [hMV.cell]; rfl
  have m1 : V.cell? ⟨w.heap.size + 1, 1, none⟩ = some (.int .i64 m.value) := by rw [hMV.cell]; rfl
  have m2 : V.cell? ⟨w.heap.size + 1, 2, none⟩ = some (.string m.item) := by rw [hMV.cell]; rfl
  have m3 : V.cell? ⟨w.heap.size + 1, 3, none⟩ = some (.int .i64 m.kind) := by rw [hMV.cell]; rfl
  have m4 : V.cell? ⟨w.heap.size + 1, 4, none⟩ = some (.int .i64 m.qty) := by rw [hMV.cell]; rfl
  have m5 : V.cell? ⟨w.heap.size + 1, 5, none⟩ = some (.int .i64 m.cost) := by rw [hMV.cell]; rfl
  have m6 : V.cell? ⟨w.heap.size + 1, 6, none⟩ = some (.string m.lot) := by rw [hMV.cell]; rfl
  have m7 : V.cell? ⟨w.heap.size + 1, 7, none⟩ = some (.int .i64 m.ref) := by rw [hMV.cell]; rfl
  have HST := Lib.hid hV0; have HBW := Lib.hid hbV0; have HMV := Lib.hid hMV; have HZV := Lib.hid hZV; have HCV := Lib.hid hCV; have HBV := Lib.hid hBV; clear hV0 hbV0 hMV hZV hCV hBV
  go_wp2_with fail
  refine (one_any m _ (HLE.out.below HBV.out)).mono ?_; rintro e w2 ⟨rfl, hb2⟩
  have h1' : (oneM m == 0) = false := by simpa using h1
  have HE := Lib.hid (show stepM s m = ⟨oneM m, zStk, zCst⟩ by unfold stepM; rw [if_pos h1]); clear h1
  have hZ2 := HZV.out.below' hb2
  have hC2 := HCV.out.below' hb2
  have hB2 := HBV.out.trans (hb2.mono (by omega))
  have z0 : w2.cell? ⟨w.heap.size + 1 + 1, 0, none⟩ = some (.int .i64 0) := by rw [hZ2.cell]; rfl
  have z1 : w2.cell? ⟨w.heap.size + 1 + 1, 1, none⟩ = some (.int .i64 0) := by rw [hZ2.cell]; rfl
  have z2 : w2.cell? ⟨w.heap.size + 1 + 1, 2, none⟩ = some (.int .i64 0) := by rw [hZ2.cell]; rfl
  have z3 : w2.cell? ⟨w.heap.size + 1 + 1, 3, none⟩ = some (.slice none 0 0) := by rw [hZ2.cell]; rfl
  have z4 : w2.cell? ⟨w.heap.size + 1 + 1, 4, none⟩ = some (.slice none 0 0) := by rw [hZ2.cell]; rfl
  have d0 : w2.cell? ⟨w.heap.size + 1 + 1 + 1, 0, none⟩ = some (.int .i64 0) := by rw [hC2.cell]; rfl
  have d1 : w2.cell? ⟨w.heap.size + 1 + 1 + 1, 1, none⟩ = some (.int .i64 0) := by rw [hC2.cell]; rfl
  have d2 : w2.cell? ⟨w.heap.size + 1 + 1 + 1, 2, none⟩ = some (.int .i64 0) := by rw [hC2.cell]; rfl
  have d3 : w2.cell? ⟨w.heap.size + 1 + 1 + 1, 3, none⟩ = some (.int .i64 0) := by rw [hC2.cell]; rfl
  have fZ := fun o => hZ2.frozen o
  have fC := fun o => hC2.frozen o
  have HB2 := Lib.hid hB2; clear hB2 hZ2 hC2 hb2
  generalize oneM m = er at *
  go_wp2_with fail
  rw [HE.out]
  refine bodyPost_ret (v := .tuple #[.agg stkZ, .agg cstZ, .int .i64 (er)]) (by simp [results, Tryd.results14, go_sem, *]) rfl (errEnd _ ?_)
  exact (((((((((HB2.out.setCell (by simp <;> omega) _).setCell (by simp <;> omega) _).setCell (by simp <;> omega) _).setCell (by simp <;> omega) _).setCell (by simp <;> omega) _).setCell (by simp <;> omega) _).setCell (by simp <;> omega) _).setCell (by simp <;> omega) _).setCell (by simp <;> omega) _)

set_option maxRecDepth 100000 in
set_option maxHeartbeats 8000000 in
theorem step_twice (s : Stk) (m : Mov) (vl vp : Value) (w : World) (hl : Rd w 4 vl s.lays.length (laysC s.lays)) (hp : Rd w 7 vp s.psts.length (pstsC s.psts)) (hn : s.lays.length ≤ 900) (hnp : s.psts.length ≤ 900)
    (_hok : LaysOk s.lays) (_hpk : PstsOk s.psts) (hq : I64 m.qty) (hcost : I64 m.cost) (hlen : LengthsAt w) (h1 : oneM m = 0) (h2 : findM 0 m.seq s.psts < s.psts.length) :
    Calls Tryd.prog 14 #[.agg (stkA s.qty s.val s.price vl vp), m.v] w fun e w' => StepPost (stepM s m) w e w' := by
  have HL := Lib.hid hl; have HP := Lib.hid hp; clear hl hp
  have hcl := fun w hl hp => cloned_any s.qty s.val s.price vl vp s.lays s.psts w hl hp (by omega) (by omega)
  go_enter Tryd.func14, Tryd.ntmps14
  go_wp2_with fail
  generalize hW : ((((w.alloc (.cells (stkA s.qty s.val s.price vl vp) 32)).alloc (.cells (mCells m) 38)).alloc (.cells stkZ 32)).alloc (.cells cstZ 34)) = W at *
  have hWs : W.heap.size = w.heap.size + 4 := by rw [← hW]; simp
  have hc0 : Below w.heap.size w W := by rw [← hW]; exact (((((Below.refl _ _).alloc (by simp) _).alloc (by simp <;> omega) _).alloc (by simp <;> omega) _).alloc (by simp <;> omega) _)
  have hA : Blk W w.heap.size 32 (stkA s.qty s.val s.price vl vp) := by rw [← hW]; exact ((((Blk.new w 32 _).alloc _).alloc _).alloc _)
  have hM : Blk W (w.heap.size + 1) 38 (mCells m) := by rw [← hW]; exact (((Blk.new2 w _ 38 _).alloc _).alloc _)
  have hZ : Blk W (w.heap.size + 1 + 1) 32 stkZ := by rw [← hW]; have := ((Blk.new2 (w.alloc (.cells (stkA s.qty s.val s.price vl vp) 32)) (.cells (mCells m) 38) 32 stkZ).alloc (.cells cstZ 34)); simpa using this
  have hC : Blk W (w.heap.size + 1 + 1 + 1) 34 cstZ := by rw [← hW]; have := Blk.new2 ((w.alloc (.cells (stkA s.qty s.val s.price vl vp) 32)).alloc (.cells (mCells m) 38)) (.cells stkZ 32) 34 cstZ; simpa using this
  clear hW
  have a0 : W.cell? ⟨w.heap.size, 0, none⟩ = some (.int .i64 s.qty) := by rw [hA.cell]; rfl
  have a1 : W.cell? ⟨w.heap.size, 1, none⟩ = some (.int .i64 s.val) := by rw [hA.cell]; rfl
  have a2 : W.cell? ⟨w.heap.size, 2, none⟩ = some (.int .i64 s.price) := by rw [hA.cell]; rfl
  have a3 : W.cell? ⟨w.heap.size, 3, none⟩ = some (vl) := by rw [hA.cell]; rfl
  have a4 : W.cell? ⟨w.heap.size, 4, none⟩ = some (vp) := by rw [hA.cell]; rfl
  have m0 : W.cell? ⟨w.heap.size + 1, 0, none⟩ = some (.int .i64 m.seq) := by rw [hM.cell]; rfl
  have m1 : W.cell? ⟨w.heap.size + 1, 1, none⟩ = some (.int .i64 m.value) := by rw [hM.cell]; rfl
  have m2 : W.cell? ⟨w.heap.size + 1, 2, none⟩ = some (.string m.item) := by rw [hM.cell]; rfl
  have m3 : W.cell? ⟨w.heap.size + 1, 3, none⟩ = some (.int .i64 m.kind) := by rw [hM.cell]; rfl
  have m4 : W.cell? ⟨w.heap.size + 1, 4, none⟩ = some (.int .i64 m.qty) := by rw [hM.cell]; rfl
  have m5 : W.cell? ⟨w.heap.size + 1, 5, none⟩ = some (.int .i64 m.cost) := by rw [hM.cell]; rfl
  have m6 : W.cell? ⟨w.heap.size + 1, 6, none⟩ = some (.string m.lot) := by rw [hM.cell]; rfl
  have m7 : W.cell? ⟨w.heap.size + 1, 7, none⟩ = some (.int .i64 m.ref) := by rw [hM.cell]; rfl
  have rl := (HL.out.below hc0).below (w' := W.drew) (Below.refl _ _).drew
  have rp := (HP.out.below hc0).below (w' := W.drew) (Below.refl _ _).drew
  have HRL := Lib.hid rl; have HRP := Lib.hid rp; clear rl rp
  have HA := Lib.hid hA; have HM := Lib.hid hM; have HZ := Lib.hid hZ; have HC := Lib.hid hC; have HC0 := Lib.hid hc0; clear hA hM hZ hC hc0
  have HLE := Lib.hid hlen; clear hlen
  go_region_held3 (fun w' => w'.cell? ⟨w.heap.size, 0, none⟩ = some (.int .i64 s.qty) ∧ w'.cell? ⟨w.heap.size, 1, none⟩ = some (.int .i64 s.val) ∧ w'.cell? ⟨w.heap.size, 2, none⟩ = some (.int .i64 s.price) ∧ w'.cell? ⟨w.heap.size, 3, none⟩ = some (vl) ∧ w'.cell? ⟨w.heap.size, 4, none⟩ = some (vp) ∧ w'.cell? ⟨w.heap.size + 1, 0, none⟩ = some (.int .i64 m.seq) ∧ w'.cell? ⟨w.heap.size + 1, 1, none⟩ = some (.int .i64 m.value) ∧ w'.cell? ⟨w.heap.size + 1, 2, none⟩ = some (.string m.item) ∧ w'.cell? ⟨w.heap.size + 1, 3, none⟩ = some (.int .i64 m.kind) ∧ w'.cell? ⟨w.heap.size + 1, 4, none⟩ = some (.int .i64 m.qty) ∧ w'.cell? ⟨w.heap.size + 1, 5, none⟩ = some (.int .i64 m.cost) ∧ w'.cell? ⟨w.heap.size + 1, 6, none⟩ = some (.string m.lot) ∧ w'.cell? ⟨w.heap.size + 1, 7, none⟩ = some (.int .i64 m.ref))
    (first | (go_keep; done) | ((try go_split_ands); (repeat' apply And.intro) <;> (first | (go_keep; done) | (rw [hb.cell (by simp <;> omega)]; (first | assumption | (go_keep; done))))))
    ((go_at_call 27; refine (hcl _ HRL.out HRP.out).mono ?_; rintro e w1 ⟨gl, gp, kl, kp, rfl, hb, hlr, hpr, hne, hg1, hg2⟩))
  have hxg : gl ≠ w1.heap.size := Nat.ne_of_lt hlr.blk.lt
  have hxp : gp ≠ w1.heap.size := Nat.ne_of_lt hpr.blk.lt
  have hV0 : St (w1.alloc (.cells (xCells s.qty s.val s.price (sl gl s.lays.length s.lays.length) (sl gp s.psts.length s.psts.length) m (c0 m)) 62)) w1.heap.size gl gp s.lays.length s.psts.length s m (c0 m) kl kp := ⟨Blk.new w1 62 _, hlr.of_blk (hlr.blk.alloc _), hpr.of_blk (hpr.blk.alloc _), Ne.symm hxg, Ne.symm hxp, hne⟩
  have hbV0 : Below W.heap.size W (w1.alloc (.cells (xCells s.qty s.val s.price (sl gl s.lays.length s.lays.length) (sl gp s.psts.length s.psts.length) m (c0 m)) 62)) := (drew_below hb).alloc (drew_below hb).size _
  generalize w1.alloc (.cells (xCells s.qty s.val s.price (sl gl s.lays.length s.lays.length) (sl gp s.psts.length s.psts.length) m (c0 m)) 62) = V at *
  generalize hgx : w1.heap.size = gx at *
  have hgx1 : w.heap.size + 4 ≤ gx := by have := hb.size; simp at this; omega
  have hgl1 : w.heap.size + 4 ≤ gl := by simp at hg1; omega
  have hgp1 : w.heap.size + 4 ≤ gp := by simp at hg2; omega
  have hMV := HM.out.below' hbV0
  have hZV := HZ.out.below' hbV0
  have hCV := HC.out.below' hbV0
  have hBV : Below w.heap.size w V := HC0.out.trans (hbV0.mono (by omega))
  have hSV := hbV0.size
  clear a0 a1 a2 a3 a4 m0 m1 m2 m3 m4 m5 m6 m7 hlr hpr hxg hxp hne hg1 hg2 hb hgx hcl
  rename_i hHeld
  clear hHeld
  have m0 : V.cell? ⟨w.heap.size + 1, 0, none⟩ = some (.int .i64 m.seq) := by rw [hMV.cell]; rfl
  have m1 : V.cell? ⟨w.heap.size + 1, 1, none⟩ = some (.int .i64 m.value) := by rw [hMV.cell]; rfl
  have m2 : V.cell? ⟨w.heap.size + 1, 2, none⟩ = some (.string m.item) := by rw [hMV.cell]; rfl
  have m3 : V.cell? ⟨w.heap.size + 1, 3, none⟩ = some (.int .i64 m.kind) := by rw [hMV.cell]; rfl
  have m4 : V.cell? ⟨w.heap.size + 1, 4, none⟩ = some (.int .i64 m.qty) := by rw [hMV.cell]; rfl
  have m5 : V.cell? ⟨w.heap.size + 1, 5, none⟩ = some (.int .i64 m.cost) := by rw [hMV.cell]; rfl
  have m6 : V.cell? ⟨w.heap.size + 1, 6, none⟩ = some (.string m.lot) := by rw [hMV.cell]; rfl
  have m7 : V.cell? ⟨w.heap.size + 1, 7, none⟩ = some (.int .i64 m.ref) := by rw [hMV.cell]; rfl
  have HST := Lib.hid hV0; have HBW := Lib.hid hbV0; have HMV := Lib.hid hMV; have HZV := Lib.hid hZV; have HCV := Lib.hid hCV; have HBV := Lib.hid hBV; clear hV0 hbV0 hMV hZV hCV hBV
  go_wp2_with fail
  refine (one_any m _ (HLE.out.below HBV.out)).mono ?_; rintro e w2 ⟨rfl, hb2⟩
  have h1' : (oneM m == 0) = true := by simpa using h1
  have hS2 := HST.out.below' hb2
  have hM2 := HMV.out.below' hb2
  have hZ2 := HZV.out.below' hb2
  have hC2 := HCV.out.below' hb2
  have hB2 := HBV.out.trans (hb2.mono (by omega))
  have hs2 := hB2.size
  have hs2' := hb2.size
  have x4 : w2.cell? ⟨gx, 4, none⟩ = some (sl gp s.psts.length s.psts.length) := by rw [hS2.x.cell]; rfl
  have m0 : w2.cell? ⟨w.heap.size + 1, 0, none⟩ = some (.int .i64 m.seq) := by rw [hM2.cell]; rfl
  have m1 : w2.cell? ⟨w.heap.size + 1, 1, none⟩ = some (.int .i64 m.value) := by rw [hM2.cell]; rfl
  have m2 : w2.cell? ⟨w.heap.size + 1, 2, none⟩ = some (.string m.item) := by rw [hM2.cell]; rfl
  have m3 : w2.cell? ⟨w.heap.size + 1, 3, none⟩ = some (.int .i64 m.kind) := by rw [hM2.cell]; rfl
  have m4 : w2.cell? ⟨w.heap.size + 1, 4, none⟩ = some (.int .i64 m.qty) := by rw [hM2.cell]; rfl
  have m5 : w2.cell? ⟨w.heap.size + 1, 5, none⟩ = some (.int .i64 m.cost) := by rw [hM2.cell]; rfl
  have m6 : w2.cell? ⟨w.heap.size + 1, 6, none⟩ = some (.string m.lot) := by rw [hM2.cell]; rfl
  have m7 : w2.cell? ⟨w.heap.size + 1, 7, none⟩ = some (.int .i64 m.ref) := by rw [hM2.cell]; rfl
  have HS2 := Lib.hid hS2; have HM2 := Lib.hid hM2; have HZ2 := Lib.hid hZ2; have HC2 := Lib.hid hC2; have HB2 := Lib.hid hB2; clear hS2 hM2 hZ2 hC2 hB2 hb2
  have hpa := past_any gx gp s.psts.length s.psts kp 0 m.seq w2 x4 HS2.out.p (by omega)
  have hfl := find_le 0 m.seq s.psts
  have HE := Lib.hid (show stepM s m = ⟨8, zStk, zCst⟩ by unfold stepM; rw [if_neg (by simpa using h1), if_pos h2])
  have hpp : pastP gp (findM 0 m.seq s.psts) s.psts.length = .pointer (some ⟨gp, findM 0 m.seq s.psts * 7, none⟩) := by unfold pastP; rw [if_pos h2]
  rw [hpp] at hpa
  clear hpp h1 h2
  have z0 : w2.cell? ⟨w.heap.size + 1 + 1, 0, none⟩ = some (.int .i64 0) := by rw [HZ2.out.cell]; rfl
  have z1 : w2.cell? ⟨w.heap.size + 1 + 1, 1, none⟩ = some (.int .i64 0) := by rw [HZ2.out.cell]; rfl
  have z2 : w2.cell? ⟨w.heap.size + 1 + 1, 2, none⟩ = some (.int .i64 0) := by rw [HZ2.out.cell]; rfl
  have z3 : w2.cell? ⟨w.heap.size + 1 + 1, 3, none⟩ = some (.slice none 0 0) := by rw [HZ2.out.cell]; rfl
  have z4 : w2.cell? ⟨w.heap.size + 1 + 1, 4, none⟩ = some (.slice none 0 0) := by rw [HZ2.out.cell]; rfl
  have d0 : w2.cell? ⟨w.heap.size + 1 + 1 + 1, 0, none⟩ = some (.int .i64 0) := by rw [HC2.out.cell]; rfl
  have d1 : w2.cell? ⟨w.heap.size + 1 + 1 + 1, 1, none⟩ = some (.int .i64 0) := by rw [HC2.out.cell]; rfl
  have d2 : w2.cell? ⟨w.heap.size + 1 + 1 + 1, 2, none⟩ = some (.int .i64 0) := by rw [HC2.out.cell]; rfl
  have d3 : w2.cell? ⟨w.heap.size + 1 + 1 + 1, 3, none⟩ = some (.int .i64 0) := by rw [HC2.out.cell]; rfl
  have fZ := fun o => HZ2.out.frozen o
  have fC := fun o => HC2.out.frozen o
  go_wp2_with fail
  refine hpa.mono ?_; rintro e w3 ⟨rfl, rfl⟩
  go_wp2_with fail
  rw [HE.out]
  refine bodyPost_ret (v := .tuple #[.agg stkZ, .agg cstZ, .int .i64 (8)]) (by simp [results, Tryd.results14, go_sem, *]) rfl (errEnd _ ?_)
  exact (((((((((HB2.out.setCell (by simp <;> omega) _).setCell (by simp <;> omega) _).setCell (by simp <;> omega) _).setCell (by simp <;> omega) _).setCell (by simp <;> omega) _).setCell (by simp <;> omega) _).setCell (by simp <;> omega) _).setCell (by simp <;> omega) _).setCell (by simp <;> omega) _)
end Go.Proofs.YtboiipkbhbbgfaaDoor
