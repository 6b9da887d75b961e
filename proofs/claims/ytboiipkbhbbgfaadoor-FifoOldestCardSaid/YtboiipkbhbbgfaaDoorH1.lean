/- lives returns true: the chapter's example, four movements. Condition: the table of the months' lengths stands as the program's text lays it. -/
import Derived.Test.YtboiipkbhbbgfaaDoorGd
namespace Go.Proofs.YtboiipkbhbbgfaaDoor
open Go.RowKit

theorem Row.rd {w : World} {g : Nat} {e : TypeId} {k n c : Nat} {cs : List Value} {cur : Array Value} (h : Row w g e k n c cs cur) : Rd w k (sl g n c) n cs := by
  refine ⟨h.len, .inr ⟨_, _, rfl, fun j u hu => ?_⟩⟩
  have hj : j < n * k := by rw [← h.len]; exact (List.getElem?_eq_some_iff.1 hu).1
  have := h.get j hj
  rw [hu] at this
  by_cases h0 : j = 0
  · subst h0
    simpa [Addr.add] using this
  · simpa [Addr.add, h0] using this
theorem OwnL.rd {w : World} {B : Nat} {v : Value} {ls : List Lay} (h : OwnL w B v ls) : Rd w 4 v ls.length (laysC ls) := by
  rcases h with ⟨rfl, rfl⟩ | ⟨g, c, k, rfl, _, hr⟩
  · exact ⟨rfl, .inl ⟨rfl, rfl⟩⟩
  · exact hr.rd
theorem OwnP.rd {w : World} {B : Nat} {v : Value} {ps : List Pst} (h : OwnP w B v ps) : Rd w 7 v ps.length (pstsC ps) := by
  rcases h with ⟨rfl, rfl⟩ | ⟨g, c, k, rfl, _, hr⟩
  · exact ⟨rfl, .inl ⟨rfl, rfl⟩⟩
  · exact hr.rd
theorem OwnL.form {w : World} {B : Nat} {v : Value} {ls : List Lay} (h : OwnL w B v ls) : ∃ b c, v = .slice b ls.length c := by
  rcases h with ⟨rfl, rfl⟩ | ⟨g, c, k, rfl, _, hr⟩
  · exact ⟨_, _, rfl⟩
  · exact ⟨_, _, rfl⟩
theorem OwnP.form {w : World} {B : Nat} {v : Value} {ps : List Pst} (h : OwnP w B v ps) : ∃ b c, v = .slice b ps.length c := by
  rcases h with ⟨rfl, rfl⟩ | ⟨g, c, k, rfl, _, hr⟩
  · exact ⟨_, _, rfl⟩
  · exact ⟨_, _, rfl⟩
theorem Rd.chg {w w' : World} {k : Nat} {b : Option Addr} {n c : Nat} {cs : List Value} {S : List Nat} (h : Rd w k (.slice b n c) n cs) (hc : Chg S w w') (hb : ∀ a, b = some a → a.block ∉ S) : Rd w' k (.slice b n c) n cs := by
  refine ⟨h.1, ?_⟩
  rcases h.2 with ⟨h1, h2⟩ | ⟨a, c', hv, hcs⟩
  · exact .inl ⟨h1, h2⟩
  · refine .inr ⟨a, c', hv, fun j u hu => ?_⟩
    have ha : b = some a := by injection hv
    have h1 := hcs j u hu
    have hlt := World.block_lt_of_cell? w _ h1
    have := hc.block (a.add j).block hlt (by rw [add_block]; exact hb a ha)
    rw [← h1]
    unfold World.cell?
    rw [this]
theorem OwnL.far {w : World} {B : Nat} {b : Option Addr} {n c : Nat} {ls : List Lay} (h : OwnL w B (.slice b n c) ls) : ∀ a, b = some a → B ≤ a.block := by
  rcases h with ⟨h, rfl⟩ | ⟨g, c, k, h, hg, hr⟩
  · injection h with h1; subst h1; intro a ha; cases ha
  · injection h with h1; subst h1; intro a ha; cases ha; exact hg
theorem OwnP.far {w : World} {B : Nat} {b : Option Addr} {n c : Nat} {ls : List Pst} (h : OwnP w B (.slice b n c) ls) : ∀ a, b = some a → B ≤ a.block := by
  rcases h with ⟨h, rfl⟩ | ⟨g, c, k, h, hg, hr⟩
  · injection h with h1; subst h1; intro a ha; cases ha
  · injection h with h1; subst h1; intro a ha; cases ha; exact hg
abbrev set5 (w : World) (b : Nat) (q v p vl vp : Value) : World := ((((w.setCell ⟨b, 0, none⟩ q).setCell ⟨b, 1, none⟩ v).setCell ⟨b, 2, none⟩ p).setCell ⟨b, 3, none⟩ vl).setCell ⟨b, 4, none⟩ vp
theorem set5_blk {w : World} {b : Nat} {c0 c1 c2 c3 c4 : Value} (h : Blk w b 32 #[c0, c1, c2, c3, c4]) (q v p vl vp : Value) : Blk (set5 w b q v p vl vp) b 32 #[q, v, p, vl, vp] := by
  have := ((((h.set 0 q).set 1 v).set 2 p).set 3 vl).set 4 vp
  simpa using this
theorem set5_chg (w : World) (b : Nat) (q v p vl vp : Value) : Chg [b] w (set5 w b q v p vl vp) := (((((Chg.refl [b] w).set (.inl (by simp)) _).set (.inl (by simp)) _).set (.inl (by simp)) _).set (.inl (by simp)) _).set (.inl (by simp)) _
theorem rdN (w : World) (k : Nat) : Rd w k (.slice none 0 0) 0 [] := ⟨by simp, .inl ⟨rfl, rfl⟩⟩

abbrev bx : ByteArray := ⟨#[120]⟩
abbrev b0 : ByteArray := ⟨#[]⟩
def lm1 : Mov := ⟨1, 0, bx, 1, 4, 10, b0, 0⟩
def lm2 : Mov := ⟨2, 0, bx, 1, 2, 8, b0, 0⟩
def lm3 : Mov := ⟨3, 0, bx, 2, 5, 0, b0, 0⟩
def lm4 : Mov := ⟨4, 0, bx, 3, 2, 0, b0, 3⟩
def ls1 : Stk := ⟨4, 10, 0, [⟨1, b0, 4, 10⟩], [⟨1, 1, b0, 4, 10, 0, 0⟩]⟩
def ls2 : Stk := ⟨6, 18, 0, [⟨1, b0, 4, 10⟩, ⟨2, b0, 2, 8⟩], [⟨1, 1, b0, 4, 10, 0, 0⟩, ⟨2, 1, b0, 2, 8, 0, 0⟩]⟩
def ls3 : Stk := ⟨1, 4, 0, [⟨2, b0, 1, 4⟩], [⟨1, 1, b0, 4, 10, 0, 0⟩, ⟨2, 1, b0, 2, 8, 0, 0⟩, ⟨3, 2, b0, 5, 14, 0, 0⟩]⟩
def ls4 : Stk := ⟨3, 10, 0, [⟨2, b0, 1, 4⟩, ⟨4, b0, 2, 6⟩], [⟨1, 1, b0, 4, 10, 0, 0⟩, ⟨2, 1, b0, 2, 8, 0, 0⟩, ⟨3, 2, b0, 5, 14, 2, 6⟩]⟩
theorem lstep1 : stepM zStk lm1 = ⟨0, ls1, ⟨1, 4, 10, 0⟩⟩ := by kernel_rfl
theorem lstep2 : stepM ls1 lm2 = ⟨0, ls2, ⟨2, 2, 8, 0⟩⟩ := by kernel_rfl
theorem lstep3 : stepM ls2 lm3 = ⟨0, ls3, ⟨3, -5, -14, 0⟩⟩ := by kernel_rfl
theorem lstep4 : stepM ls3 lm4 = ⟨0, ls4, ⟨4, 2, 6, 0⟩⟩ := by kernel_rfl

/-- what a step of the example returns -/
def LP (s : Stk) (c : Cst) (w : World) (e : Ending) (w' : World) : Prop :=
  ∃ bl cl bp cp, e = .returned (.tuple #[.agg (stkA s.qty s.val s.price (.slice bl s.lays.length cl) (.slice bp s.psts.length cp)), .agg (cstA c), .int .i64 0]) ∧ Below w.heap.size w w' ∧ Rd w' 4 (.slice bl s.lays.length cl) s.lays.length (laysC s.lays) ∧ Rd w' 7 (.slice bp s.psts.length cp) s.psts.length (pstsC s.psts) ∧ (∀ a, bl = some a → w.heap.size ≤ a.block) ∧ (∀ a, bp = some a → w.heap.size ≤ a.block)

theorem lcall (s : Stk) (m : Mov) (t : Stk) (c : Cst) (hs : stepM s m = ⟨0, t, c⟩) (hn : s.lays.length ≤ 900) (hnp : s.psts.length ≤ 900)
    (hok : LaysOk s.lays) (hpk : PstsOk s.psts) (hq : I64 m.qty) (hcost : I64 m.cost)
    (vl vp : Value) (w : World) (hl : Rd w 4 vl s.lays.length (laysC s.lays)) (hp : Rd w 7 vp s.psts.length (pstsC s.psts)) (hlen : LengthsAt w) :
    Calls Tryd.prog 14 #[.agg (stkA s.qty s.val s.price vl vp), m.v] w (LP t c w) := by
  refine (step_any s m vl vp w hl hp hn hnp hok hpk hq hcost hlen).mono fun e w' h => ?_
  rw [hs] at h
  obtain ⟨vl', vp', rfl, hb, hol, hop⟩ := h
  obtain ⟨bl, cl, rfl⟩ := hol.form
  obtain ⟨bp, cp, rfl⟩ := hop.form
  exact ⟨bl, cl, bp, cp, rfl, hb, hol.rd, hop.rd, hol.far, hop.far⟩
def LQ (q v : Int) (nl np : Nat) (cq : Array Value) (cl' cp' : List Value) (w : World) (e : Ending) (w' : World) : Prop :=
  ∃ bl cl bp cp, e = .returned (.tuple #[.agg #[.int .i64 q, .int .i64 v, .int .i64 0, .slice bl nl cl, .slice bp np cp], .agg cq, .int .i64 0]) ∧ Below w.heap.size w w' ∧ Rd w' 4 (.slice bl nl cl) nl cl' ∧ Rd w' 7 (.slice bp np cp) np cp' ∧ (∀ a, bl = some a → w.heap.size ≤ a.block) ∧ (∀ a, bp = some a → w.heap.size ≤ a.block)
theorem i64_small (n : Int) (h0 : -1000 ≤ n) (h1 : n ≤ 1000) : I64 n := by unfold I64; omega
theorem lc1 (w : World) (hlen : LengthsAt w) : Calls Tryd.prog 14 #[.agg #[.int .i64 0, .int .i64 0, .int .i64 0, .slice none 0 0, .slice none 0 0], .agg #[.int .i64 1, .int .i64 0, .string bx, .int .i64 1, .int .i64 4, .int .i64 10, .string b0, .int .i64 0]] w (LQ 4 10 1 1 #[.int .i64 1, .int .i64 4, .int .i64 10, .int .i64 0] (laysC ls1.lays) (pstsC ls1.psts) w) :=
  lcall zStk lm1 ls1 _ lstep1 (by decide) (by decide) (fun l hl => by cases hl) (fun l hl => by cases hl) (i64_small _ (by decide) (by decide)) (i64_small _ (by decide) (by decide)) _ _ w (rdN w 4) (rdN w 7) hlen
theorem lc2 (vl vp : Value) (w : World) (hl : Rd w 4 vl 1 (laysC ls1.lays)) (hp : Rd w 7 vp 1 (pstsC ls1.psts)) (hlen : LengthsAt w) : Calls Tryd.prog 14 #[.agg #[.int .i64 4, .int .i64 10, .int .i64 0, vl, vp], .agg #[.int .i64 2, .int .i64 0, .string bx, .int .i64 1, .int .i64 2, .int .i64 8, .string b0, .int .i64 0]] w (LQ 6 18 2 2 #[.int .i64 2, .int .i64 2, .int .i64 8, .int .i64 0] (laysC ls2.lays) (pstsC ls2.psts) w) :=
  lcall ls1 lm2 ls2 _ lstep2 (by decide) (by decide) (fun l hl => by simp [ls1] at hl; subst hl; exact ⟨i64_small _ (by decide) (by decide), i64_small _ (by decide) (by decide)⟩) (fun l hl => by simp [ls1] at hl; subst hl; exact i64_small _ (by decide) (by decide)) (i64_small _ (by decide) (by decide)) (i64_small _ (by decide) (by decide)) _ _ w hl hp hlen
theorem lc3 (vl vp : Value) (w : World) (hl : Rd w 4 vl 2 (laysC ls2.lays)) (hp : Rd w 7 vp 2 (pstsC ls2.psts)) (hlen : LengthsAt w) : Calls Tryd.prog 14 #[.agg #[.int .i64 6, .int .i64 18, .int .i64 0, vl, vp], .agg #[.int .i64 3, .int .i64 0, .string bx, .int .i64 2, .int .i64 5, .int .i64 0, .string b0, .int .i64 0]] w (LQ 1 4 1 3 #[.int .i64 3, .int .i64 (-5), .int .i64 (-14), .int .i64 0] (laysC ls3.lays) (pstsC ls3.psts) w) :=
  lcall ls2 lm3 ls3 _ lstep3 (by decide) (by decide) (fun l hl => by simp [ls2] at hl; rcases hl with rfl | rfl <;> exact ⟨i64_small _ (by decide) (by decide), i64_small _ (by decide) (by decide)⟩) (fun l hl => by simp [ls2] at hl; rcases hl with rfl | rfl <;> exact i64_small _ (by decide) (by decide)) (i64_small _ (by decide) (by decide)) (i64_small _ (by decide) (by decide)) _ _ w hl hp hlen
theorem lc4 (vl vp : Value) (w : World) (hl : Rd w 4 vl 1 (laysC ls3.lays)) (hp : Rd w 7 vp 3 (pstsC ls3.psts)) (hlen : LengthsAt w) : Calls Tryd.prog 14 #[.agg #[.int .i64 1, .int .i64 4, .int .i64 0, vl, vp], .agg #[.int .i64 4, .int .i64 0, .string bx, .int .i64 3, .int .i64 2, .int .i64 0, .string b0, .int .i64 3]] w (LQ 3 10 2 3 #[.int .i64 4, .int .i64 2, .int .i64 6, .int .i64 0] (laysC ls4.lays) (pstsC ls4.psts) w) :=
  lcall ls3 lm4 ls4 _ lstep4 (by decide) (by decide) (fun l hl => by simp [ls3] at hl; subst hl; exact ⟨i64_small _ (by decide) (by decide), i64_small _ (by decide) (by decide)⟩) (fun l hl => by simp [ls3] at hl; rcases hl with rfl | rfl | rfl <;> exact i64_small _ (by decide) (by decide)) (i64_small _ (by decide) (by decide)) (i64_small _ (by decide) (by decide)) _ _ w hl hp hlen

set_option maxRecDepth 100000 in
set_option maxHeartbeats 8000000 in
theorem lives_any (w : World) (hlen : LengthsAt w) : Calls Tryd.prog 17 #[] w fun e w' => e = .returned (.bool true) ∧ Below w.heap.size w w' := by
  have HLE := Lib.hid hlen
  go_enter Tryd.func17, Tryd.ntmps17
  go_wp2_with fail
  refine (lc1 _ hlen).mono ?_
  rintro e w1 ⟨bl1, cl1, bp1, cp1, rfl, hb1, hl1, hp1, -, -⟩
  have HB1 := Lib.hid hb1; have HL1 := Lib.hid hl1; have HP1 := Lib.hid hp1; clear hlen hb1 hl1 hp1
  go_wp2_with fail
  have hA : Below w1.heap.size w1 ((w1.alloc (.cells #[.int .i64 4, .int .i64 10, .int .i64 0, .slice bl1 1 cl1, .slice bp1 1 cp1] 32)).alloc (.cells #[.int .i64 1, .int .i64 4, .int .i64 10, .int .i64 0] 34)) := ((Below.refl _ _).alloc (by simp) _).alloc (by simp <;> omega) _
  have hK : Blk ((w1.alloc (.cells #[.int .i64 4, .int .i64 10, .int .i64 0, .slice bl1 1 cl1, .slice bp1 1 cp1] 32)).alloc (.cells #[.int .i64 1, .int .i64 4, .int .i64 10, .int .i64 0] 34)) w1.heap.size 32 #[.int .i64 4, .int .i64 10, .int .i64 0, .slice bl1 1 cl1, .slice bp1 1 cp1] := (Blk.new _ _ _).alloc _
  generalize ((w1.alloc (.cells #[.int .i64 4, .int .i64 10, .int .i64 0, .slice bl1 1 cl1, .slice bp1 1 cp1] 32)).alloc (.cells #[.int .i64 1, .int .i64 4, .int .i64 10, .int .i64 0] 34)) = W1 at *
  generalize hb : w1.heap.size = b at *
  have hbw : w.heap.size ≤ b := by have := HB1.out.size; omega
  have hBW1 : Below w.heap.size w W1 := HB1.out.trans (hA.mono hbw)
  have hA' : Below w1.heap.size w1 W1 := by rw [hb]; exact hA
  have hbW : b < W1.heap.size := hK.lt
  refine (lc2 _ _ _ (HL1.out.below hA') (HP1.out.below hA') (HLE.out.below hBW1)).mono ?_
  rintro e w2 ⟨bl2, cl2, bp2, cp2, rfl, hb2, hl2, hp2, fl2, fp2⟩
  have hk := hK.below' hb2
  have k0 : w2.cell? ⟨b, 0, none⟩ = some (.int .i64 4) := by rw [hk.cell]; rfl
  have k1 : w2.cell? ⟨b, 1, none⟩ = some (.int .i64 10) := by rw [hk.cell]; rfl
  have k2 : w2.cell? ⟨b, 2, none⟩ = some (.int .i64 0) := by rw [hk.cell]; rfl
  have k3 : w2.cell? ⟨b, 3, none⟩ = some (.slice bl1 1 cl1) := by rw [hk.cell]; rfl
  have k4 : w2.cell? ⟨b, 4, none⟩ = some (.slice bp1 1 cp1) := by rw [hk.cell]; rfl
  have fK := fun o => hk.frozen o
  have nK := hk.lt
  have HB2 := Lib.hid (hBW1.trans (hb2.mono (by omega))); have HL2 := Lib.hid hl2; have HP2 := Lib.hid hp2; have HK2 := Lib.hid hk; have FL2 := Lib.hid fl2; have FP2 := Lib.hid fp2; clear hA hA' hK hb2 hl2 hp2 hk hBW1 fl2 fp2 HL1 HP1 HB1
  go_wp2_with fail
  have hC : Chg [b] w2 ((set5 w2 b (.int .i64 6) (.int .i64 18) (.int .i64 0) (.slice bl2 2 cl2) (.slice bp2 2 cp2)).alloc (.cells #[.int .i64 2, .int .i64 2, .int .i64 8, .int .i64 0] 34)) := (set5_chg w2 b _ _ _ _ _).alloc _
  have hK : Blk ((set5 w2 b (.int .i64 6) (.int .i64 18) (.int .i64 0) (.slice bl2 2 cl2) (.slice bp2 2 cp2)).alloc (.cells #[.int .i64 2, .int .i64 2, .int .i64 8, .int .i64 0] 34)) b 32 #[.int .i64 6, .int .i64 18, .int .i64 0, .slice bl2 2 cl2, .slice bp2 2 cp2] := (set5_blk HK2.out _ _ _ _ _).alloc _
  generalize ((set5 w2 b (.int .i64 6) (.int .i64 18) (.int .i64 0) (.slice bl2 2 cl2) (.slice bp2 2 cp2)).alloc (.cells #[.int .i64 2, .int .i64 2, .int .i64 8, .int .i64 0] 34)) = W2 at *
  have hBW2 : Below w.heap.size w W2 := HB2.out.trans (hC.below HB2.out.size (by simpa using hbw))
  have hW2 := hC.size
  clear k0 k1 k2 k3 k4 fK HK2
  refine (lc3 _ _ _ (HL2.out.chg hC (fun a ha => by have := FL2.out a ha; simp; omega)) (HP2.out.chg hC (fun a ha => by have := FP2.out a ha; simp; omega)) (HLE.out.below hBW2)).mono ?_
  rintro e w3 ⟨bl3, cl3, bp3, cp3, rfl, hb3, hl3, hp3, fl3, fp3⟩
  have hk := hK.below' hb3
  have k0 : w3.cell? ⟨b, 0, none⟩ = some (.int .i64 6) := by rw [hk.cell]; rfl
  have k1 : w3.cell? ⟨b, 1, none⟩ = some (.int .i64 18) := by rw [hk.cell]; rfl
  have k2 : w3.cell? ⟨b, 2, none⟩ = some (.int .i64 0) := by rw [hk.cell]; rfl
  have k3 : w3.cell? ⟨b, 3, none⟩ = some (.slice bl2 2 cl2) := by rw [hk.cell]; rfl
  have k4 : w3.cell? ⟨b, 4, none⟩ = some (.slice bp2 2 cp2) := by rw [hk.cell]; rfl
  have fK := fun o => hk.frozen o
  have nK3 := hk.lt
  have HB3 := Lib.hid (hBW2.trans (hb3.mono (by omega))); have HL3 := Lib.hid hl3; have HP3 := Lib.hid hp3; have HK3 := Lib.hid hk; have FL3 := Lib.hid fl3; have FP3 := Lib.hid fp3; clear hC hK hb3 hl3 hp3 hk hBW2 fl3 fp3 HL2 HP2 HB2 FL2 FP2
  have ne3 : w3.heap.size ≠ b := by omega
  go_wp2_with fail
  have hC : Chg [b] w3 ((set5 w3 b (.int .i64 1) (.int .i64 4) (.int .i64 0) (.slice bl3 1 cl3) (.slice bp3 3 cp3)).alloc (.cells #[.int .i64 3, .int .i64 (-5), .int .i64 (-14), .int .i64 0] 34)) := (set5_chg w3 b _ _ _ _ _).alloc _
  have hK : Blk ((set5 w3 b (.int .i64 1) (.int .i64 4) (.int .i64 0) (.slice bl3 1 cl3) (.slice bp3 3 cp3)).alloc (.cells #[.int .i64 3, .int .i64 (-5), .int .i64 (-14), .int .i64 0] 34)) b 32 #[.int .i64 1, .int .i64 4, .int .i64 0, .slice bl3 1 cl3, .slice bp3 3 cp3] := (set5_blk HK3.out _ _ _ _ _).alloc _
  have hs3 : (set5 w3 b (.int .i64 1) (.int .i64 4) (.int .i64 0) (.slice bl3 1 cl3) (.slice bp3 3 cp3)).heap.size = w3.heap.size := by simp
  have hC3 : Blk ((set5 w3 b (.int .i64 1) (.int .i64 4) (.int .i64 0) (.slice bl3 1 cl3) (.slice bp3 3 cp3)).alloc (.cells #[.int .i64 3, .int .i64 (-5), .int .i64 (-14), .int .i64 0] 34)) w3.heap.size 34 #[.int .i64 3, .int .i64 (-5), .int .i64 (-14), .int .i64 0] := by have := Blk.new (set5 w3 b (.int .i64 1) (.int .i64 4) (.int .i64 0) (.slice bl3 1 cl3) (.slice bp3 3 cp3)) 34 #[.int .i64 3, .int .i64 (-5), .int .i64 (-14), .int .i64 0]; rw [hs3] at this; exact this
  clear hs3
  generalize ((set5 w3 b (.int .i64 1) (.int .i64 4) (.int .i64 0) (.slice bl3 1 cl3) (.slice bp3 3 cp3)).alloc (.cells #[.int .i64 3, .int .i64 (-5), .int .i64 (-14), .int .i64 0] 34)) = W3 at *
  have hBW3 : Below w.heap.size w W3 := HB3.out.trans (hC.below HB3.out.size (by simpa using hbw))
  have hW3 := hC.size
  clear k0 k1 k2 k3 k4 fK HK3
  refine (lc4 _ _ _ (HL3.out.chg hC (fun a ha => by have := FL3.out a ha; simp; omega)) (HP3.out.chg hC (fun a ha => by have := FP3.out a ha; simp; omega)) (HLE.out.below hBW3)).mono ?_
  rintro e w4 ⟨bl4, cl4, bp4, cp4, rfl, hb4, hl4, hp4, -, -⟩
  have hk := hK.below' hb4
  have hj := hC3.below' hb4
  have k0 : w4.cell? ⟨b, 0, none⟩ = some (.int .i64 1) := by rw [hk.cell]; rfl
  have k1 : w4.cell? ⟨b, 1, none⟩ = some (.int .i64 4) := by rw [hk.cell]; rfl
  have k2 : w4.cell? ⟨b, 2, none⟩ = some (.int .i64 0) := by rw [hk.cell]; rfl
  have k3 : w4.cell? ⟨b, 3, none⟩ = some (.slice bl3 1 cl3) := by rw [hk.cell]; rfl
  have k4 : w4.cell? ⟨b, 4, none⟩ = some (.slice bp3 3 cp3) := by rw [hk.cell]; rfl
  have j0 : w4.cell? ⟨w3.heap.size, 0, none⟩ = some (.int .i64 3) := by rw [hj.cell]; rfl
  have j1 : w4.cell? ⟨w3.heap.size, 1, none⟩ = some (.int .i64 (-5)) := by rw [hj.cell]; rfl
  have j2 : w4.cell? ⟨w3.heap.size, 2, none⟩ = some (.int .i64 (-14)) := by rw [hj.cell]; rfl
  have j3 : w4.cell? ⟨w3.heap.size, 3, none⟩ = some (.int .i64 0) := by rw [hj.cell]; rfl
  have HB4 := Lib.hid (hBW3.trans (hb4.mono (by omega)))
  have nk4 := hk.lt
  have nj4 := hj.lt
  generalize w3.heap.size = b3 at *
  clear hC hK hb4 hl4 hp4 hk hj hC3 hBW3 HL3 HP3 HB3 FL3 FP3
  go_wp2_with fail
  go_ret
  exact ⟨rfl, (HB4.out.alloc HB4.out.size _).alloc (Nat.le_trans HB4.out.size (by simp)) _⟩
end Go.Proofs.YtboiipkbhbbgfaaDoor
