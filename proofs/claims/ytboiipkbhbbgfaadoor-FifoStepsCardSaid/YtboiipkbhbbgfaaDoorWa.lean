/- The reference's moves by themselves, its layer, its arithmetic, its Part, Share, Return. -/
import Derived.Test.YtboiipkbhbbgfaaDoorD3
import Derived.Test.YtboiipkbhbbgfaaDoorJ1
namespace Go.Proofs.YtboiipkbhbbgfaaDoor
open Go.RowKit

set_option maxHeartbeats 400000 in
theorem rday_any (n : Int) (w : World) : Calls Tryd.prog 63 #[.int .i64 n] w fun e w' => e = .returned (.bool (inB n 0 109572)) ∧ w = w' := by
  by_cases h : 0 ≤ n
  · have h' : decide (0 ≤ n) = true := by simpa using h
    go_enter Tryd.func63, Tryd.ntmps63
    go_wp2
    go_ret
    exact ⟨ret_bool (by simp [inB, h]), rfl⟩
  · have h' : decide (0 ≤ n) = false := by simpa using h
    go_enter Tryd.func63, Tryd.ntmps63
    go_wp2
    go_ret
    exact ⟨ret_bool (by simp [inB]; omega), rfl⟩

set_option maxHeartbeats 400000 in
theorem stocked_any (n : Int) (w : World) : Calls Tryd.prog 88 #[.int .i64 n] w fun e w' => e = .returned (.bool (inB n 1 4)) ∧ w = w' := by
  by_cases h : 1 ≤ n
  · have h' : decide (1 ≤ n) = true := by simpa using h
    go_enter Tryd.func88, Tryd.ntmps88
    go_wp2
    go_ret
    exact ⟨ret_bool (by simp [inB, h]), rfl⟩
  · have h' : decide (1 ≤ n) = false := by simpa using h
    go_enter Tryd.func88, Tryd.ntmps88
    go_wp2
    go_ret
    exact ⟨ret_bool (by simp [inB]; omega), rfl⟩

set_option maxHeartbeats 400000 in
theorem follows_any (k : Int) (w : World) : Calls Tryd.prog 67 #[.int .i64 k] w fun e w' => e = .returned (.bool (refersB k)) ∧ w = w' := by
  have h : k = 3 ∨ k = 4 ∨ k = 5 ∨ ((k == 3) = false ∧ (k == 4) = false ∧ (k == 5) = false) := by simp; omega
  rcases h with rfl | rfl | rfl | ⟨h3, h4, h5⟩
  all_goals
    go_enter Tryd.func67, Tryd.ntmps67
    go_wp2
    go_ret
    first | exact ⟨rfl, rfl⟩ | exact ⟨ret_bool (by simp at h3 h4 h5; simp [refersB]; omega), rfl⟩

def rqtyB (m : Mov) : Bool := if inB m.kind 1 4 = true then inB m.qty 1 1000000000 else m.qty == 0

set_option maxRecDepth 100000 in
set_option maxHeartbeats 800000 in
theorem rquantity_any (m : Mov) (w : World) : Calls Tryd.prog 65 #[m.v] w fun e w' => e = .returned (.bool (rqtyB m)) ∧ Below w.heap.size w w' := by
  cases hs : inB m.kind 1 4 with
  | false =>
    have HS := Lib.hid hs; clear hs
    go_enter Tryd.func65, Tryd.ntmps65
    go_wp2_with fail
    refine (stocked_any _ _).mono ?_; rintro e w' ⟨rfl, rfl⟩
    rw [HS.out]
    go_wp2_with fail
    go_ret
    exact ⟨ret_bool (by unfold rqtyB; rw [if_neg (by rw [HS.out]; decide)]), (Below.refl _ _).alloc (Nat.le_refl _) _⟩
  | true =>
    have HS := Lib.hid hs; clear hs
    by_cases h : 1 ≤ m.qty
    · have h' : decide (1 ≤ m.qty) = true := by simpa using h
      go_enter Tryd.func65, Tryd.ntmps65
      go_wp2_with fail
      refine (stocked_any _ _).mono ?_; rintro e w' ⟨rfl, rfl⟩
      rw [HS.out]
      go_wp2_with fail
      go_ret
      exact ⟨ret_bool (by unfold rqtyB; rw [if_pos HS.out]; simp [inB, h]), (Below.refl _ _).alloc (Nat.le_refl _) _⟩
    · have h' : decide (1 ≤ m.qty) = false := by simpa using h
      go_enter Tryd.func65, Tryd.ntmps65
      go_wp2_with fail
      refine (stocked_any _ _).mono ?_; rintro e w' ⟨rfl, rfl⟩
      rw [HS.out]
      go_wp2_with fail
      go_ret
      exact ⟨ret_bool (by unfold rqtyB; rw [if_pos HS.out]; simp [inB]; omega), (Below.refl _ _).alloc (Nat.le_refl _) _⟩

set_option maxRecDepth 100000 in
set_option maxHeartbeats 1600000 in
theorem rcost_any (m : Mov) (w : World) : Calls Tryd.prog 66 #[m.v] w fun e w' => e = .returned (.bool (costB m)) ∧ Below w.heap.size w w' := by
  have h : m.kind = 2 ∨ m.kind = 3 ∨ m.kind = 5 ∨ ((m.kind == 2) = false ∧ (m.kind == 3) = false ∧ (m.kind == 5) = false) := by simp; omega
  rcases h with h | h | h | ⟨h2, h3, h5⟩
  · have H := Lib.hid h
    have h' : (m.kind == 2) = true := by simpa using h
    clear h
    go_enter Tryd.func66, Tryd.ntmps66
    go_wp2
    go_ret
    exact ⟨ret_bool (by simp [costB, H.out]), (Below.refl _ _).alloc (Nat.le_refl _) _⟩
  · have H := Lib.hid h
    have h' : (m.kind == 3) = true := by simpa using h
    have h2 : (m.kind == 2) = false := by rw [h]; decide
    clear h
    go_enter Tryd.func66, Tryd.ntmps66
    go_wp2
    go_ret
    exact ⟨ret_bool (by simp [costB, H.out]), (Below.refl _ _).alloc (Nat.le_refl _) _⟩
  · have H := Lib.hid h
    have h' : (m.kind == 5) = true := by simpa using h
    have h2 : (m.kind == 2) = false := by rw [h]; decide
    have h3 : (m.kind == 3) = false := by rw [h]; decide
    clear h
    by_cases hm : 1 ≤ m.cost
    · have hm' : decide (1 ≤ m.cost) = true := by simpa using hm
      go_enter Tryd.func66, Tryd.ntmps66
      go_wp2
      go_ret
      exact ⟨ret_bool (by simp [costB, H.out, inB, hm]), (Below.refl _ _).alloc (Nat.le_refl _) _⟩
    · have hm' : decide (1 ≤ m.cost) = false := by simpa using hm
      go_enter Tryd.func66, Tryd.ntmps66
      go_wp2
      go_ret
      exact ⟨ret_bool (by simp [costB, H.out, inB]; omega), (Below.refl _ _).alloc (Nat.le_refl _) _⟩
  · have e0 : costB m = inB m.cost 0 1000000000000 := by
      simp at h2 h3 h5
      simp [costB, h2, h3, h5]
    have E0 := Lib.hid e0; clear e0
    by_cases hm : 0 ≤ m.cost
    · have hm' : decide (0 ≤ m.cost) = true := by simpa using hm
      go_enter Tryd.func66, Tryd.ntmps66
      go_wp2
      go_ret
      exact ⟨ret_bool (by rw [E0.out]; simp [inB, hm]), (Below.refl _ _).alloc (Nat.le_refl _) _⟩
    · have hm' : decide (0 ≤ m.cost) = false := by simpa using hm
      go_enter Tryd.func66, Tryd.ntmps66
      go_wp2
      go_ret
      exact ⟨ret_bool (by rw [E0.out]; simp [inB]; omega), (Below.refl _ _).alloc (Nat.le_refl _) _⟩

theorem rqty_eq (m : Mov) (h : inB m.kind 1 6 = true) : rqtyB m = qtyB m := by
  simp [inB] at h
  unfold rqtyB qtyB
  by_cases h5 : m.kind = 5 ∨ m.kind = 6
  · rw [if_pos h5, if_neg (by simp [inB]; omega)]
  · rw [if_neg h5, if_pos (by simp [inB]; omega)]

set_option maxRecDepth 100000 in
set_option maxHeartbeats 8000000 in
theorem rone_any (m : Mov) (w : World) (si : m.item.size ≤ 9223372036854775807) (sl : m.lot.size ≤ 9223372036854775807) : Calls Tryd.prog 37 #[m.v] w fun e w' => e = .returned (.int .i64 (oneM m)) ∧ Below w.heap.size w w' := by
  have hci := fun wx => rcode_any m.item wx si
  have hcl := fun wx => rcode_any m.lot wx sl
  clear si sl
  go_enter Tryd.func37, Tryd.ntmps37
  go_wp2_with fail
  refine (rday_any _ _).mono ?_; rintro e w' ⟨rfl, rfl⟩
  have B1 : Hid (Below w.heap.size w (w.alloc (.cells #[.int .i64 m.seq, .int .i64 m.value, .string m.item, .int .i64 m.kind, .int .i64 m.qty, .int .i64 m.cost, .string m.lot, .int .i64 m.ref] 38))) := (Below.refl _ _).alloc (Nat.le_refl _) _
  cases hd : inB m.value 0 109572 with
  | false =>
    have HD := Lib.hid hd; clear hd
    go_wp2_with fail
    go_ret
    exact ⟨ret_int (by unfold oneM; rw [if_pos HD.out]), B1.out⟩
  | true =>
    have HD := Lib.hid hd; clear hd
    go_wp2_with fail
    refine (hci _).mono ?_; rintro e w' ⟨rfl, rfl⟩
    cases hc : codeB m.item with
    | false =>
      have HC := Lib.hid hc; clear hc
      go_wp2_with fail
      go_ret
      exact ⟨ret_int (by unfold oneM; rw [if_neg (by rw [HD.out]; decide), if_pos HC.out]), B1.out⟩
    | true =>
      have HC := Lib.hid hc; clear hc
      by_cases k1 : m.kind < 1
      · have k1' : decide (m.kind < 1) = true := by simpa using k1
        go_wp2_with fail
        go_ret
        exact ⟨ret_int (by unfold oneM; rw [if_neg (by rw [HD.out]; decide), if_neg (by rw [HC.out]; decide), if_pos (by simp [inB]; omega)]), B1.out⟩
      by_cases k6 : 6 < m.kind
      · have k1' : decide (m.kind < 1) = false := by simpa using k1
        have k6' : decide (6 < m.kind) = true := by simpa using k6
        go_wp2_with fail
        go_ret
        exact ⟨ret_int (by unfold oneM; rw [if_neg (by rw [HD.out]; decide), if_neg (by rw [HC.out]; decide), if_pos (by simp [inB]; omega)]), B1.out⟩
      have k1' : decide (m.kind < 1) = false := by simpa using k1
      have k6' : decide (6 < m.kind) = false := by simpa using k6
      have hk : inB m.kind 1 6 = true := by simp [inB]; omega
      have e0 : oneM m = if qtyB m = false ∨ costB m = false then 3 else if lotB m = false then 22 else if refBad m = true then 28 else 0 := by
        unfold oneM; rw [if_neg (by rw [HD.out]; decide), if_neg (by rw [HC.out]; decide), if_neg (by rw [hk]; decide)]
      have HRQ := Lib.hid (rqty_eq m hk)
      have E0 := Lib.hid e0; clear e0 HD HC hk
      go_wp2_with fail
      refine (rquantity_any m _).mono ?_; rintro e w2 ⟨rfl, hb2⟩
      rw [HRQ.out]
      have B2 : Hid (Below w.heap.size w w2) := B1.out.trans (hb2.mono B1.out.size)
      obtain ⟨hc2, hf2⟩ := bcell hb2
      cases hq : qtyB m with
      | false =>
        have HQ := Lib.hid hq; clear hq
        go_wp2_with fail
        go_ret
        exact ⟨ret_int (by rw [E0.out, if_pos (Or.inl HQ.out)]), B2.out⟩
      | true =>
        have HQ := Lib.hid hq; clear hq
        go_wp2_with fail
        refine (rcost_any m _).mono ?_; rintro e w3 ⟨rfl, hb3⟩
        have B3 : Hid (Below w.heap.size w w3) := B2.out.trans (hb3.mono B2.out.size)
        have hz2 : w.heap.size < w2.heap.size := by have := hb2.size; simp at this; omega
        obtain ⟨hc3, hf3⟩ := bcell hb3
        cases hco : costB m with
        | false =>
          have HCO := Lib.hid hco; clear hco
          go_wp2_with fail
          go_ret
          exact ⟨ret_int (by rw [E0.out, if_pos (Or.inr HCO.out)]), B3.out⟩
        | true =>
          have HCO := Lib.hid hco; clear hco
          have e1 : oneM m = if lotB m = false then 22 else if refBad m = true then 28 else 0 := by rw [E0.out, if_neg (by rw [HQ.out, HCO.out]; decide)]
          have E1 := Lib.hid e1; clear e1 E0 HQ HCO
          have hz3 : w.heap.size < w3.heap.size := by have := hb3.size; omega
          have m6 : w3.cell? ⟨w.heap.size, 6, none⟩ = some (.string m.lot) := by
            rw [hc3 _ _ hz2, hc2 _ _ (by simp)]; simp
          have m3 : w3.cell? ⟨w.heap.size, 3, none⟩ = some (.int .i64 m.kind) := by
            rw [hc3 _ _ hz2, hc2 _ _ (by simp)]; simp
          have m7 : w3.cell? ⟨w.heap.size, 7, none⟩ = some (.int .i64 m.ref) := by
            rw [hc3 _ _ hz2, hc2 _ _ (by simp)]; simp
          clear hc3 hf3 hc2 hf2 hb2 hb3
          -- the last test, whichever way it is come to
          have last : lotB m = true → oneM m = if refBad m = true then 28 else 0 := fun h => by rw [E1.out, if_neg (by rw [h]; decide)]
          have LA := Lib.hid last; clear last
          go_upto_region 9 with fail
          go_cut [31] (fun s wx => s = .bool (!lotB m) ∧ wx = w3)
          case first =>
            by_cases h0 : m.lot.size = 0
            · have hn := (toList_nil m.lot).2 h0
              have hlo : lotB m = true := by unfold lotB; rw [decide_eq_true h0]; rfl
              have HLO := Lib.hid hlo; clear hlo h0
              go_wp2_with fail
              go_meet
              exact ⟨by rw [HLO.out]; rfl, rfl⟩
            · have hn : ¬ m.lot.toList = [] := fun h => h0 ((toList_nil m.lot).1 h)
              have hn' : m.lot.toList.isEmpty = false := by simpa using hn
              have H0 := Lib.hid h0; clear h0
              go_wp2_with fail
              refine (hcl _).mono ?_; rintro e w' ⟨rfl, rfl⟩
              cases hcc : codeB m.lot with
              | false =>
                have hlo : lotB m = false := by unfold lotB; rw [decide_eq_false H0.out, hcc]; rfl
                have HLO := Lib.hid hlo; clear hlo hcc
                go_wp2_with fail
                go_meet
                exact ⟨by rw [HLO.out]; rfl, rfl⟩
              | true =>
                have hlo : lotB m = !decide (2 < m.kind) := by
                  unfold lotB; rw [decide_eq_false H0.out, hcc, Bool.eq_iff_iff]
                  simp
                  omega
                have HLO := Lib.hid hlo; clear hlo hcc
                go_wp2_with fail
                go_meet
                exact ⟨by rw [HLO.out]; simp, rfl⟩
          case rest =>
            obtain ⟨rfl, rfl⟩ := hcut
            cases hlo : lotB m with
            | false =>
              have HLO := Lib.hid hlo; clear hlo
              go_wp2_with fail
              go_ret
              exact ⟨ret_int (by rw [E1.out, if_pos HLO.out]), B3.out⟩
            | true =>
              have E2 := Lib.hid (LA.out hlo); clear hlo
              go_wp2_with fail
              refine (follows_any _ _).mono ?_; rintro e w' ⟨rfl, rfl⟩
              cases hr : refersB m.kind with
              | true =>
                have HR := Lib.hid hr; clear hr
                by_cases hrf : m.ref < 1
                · have hr' : decide (m.ref < 1) = true := by simpa using hrf
                  go_wp2_with fail
                  go_ret
                  exact ⟨ret_int (by rw [E2.out, if_pos (by unfold refBad; rw [if_pos HR.out]; simpa using hrf)]), B3.out⟩
                · have hr' : decide (m.ref < 1) = false := by simpa using hrf
                  go_wp2_with fail
                  refine (follows_any _ _).mono ?_; rintro e w' ⟨rfl, rfl⟩
                  rw [HR.out]
                  go_wp2_with fail
                  go_ret
                  exact ⟨ret_int (by rw [E2.out, if_neg (by unfold refBad; rw [if_pos HR.out]; simp; omega)]), B3.out⟩
              | false =>
                have HR := Lib.hid hr; clear hr
                by_cases hrf : m.ref = 0
                · have hr' : (m.ref != 0) = false := by simpa using hrf
                  have HF := Lib.hid hrf; clear hrf
                  go_wp2_with fail
                  refine (follows_any _ _).mono ?_; rintro e w' ⟨rfl, rfl⟩
                  rw [HR.out]
                  go_wp2_with fail
                  go_ret
                  exact ⟨ret_int (by rw [E2.out, if_neg (by unfold refBad; rw [if_neg (by rw [HR.out]; decide), HF.out]; decide)]), B3.out⟩
                · have hr' : (m.ref != 0) = true := by simpa using hrf
                  go_wp2_with fail
                  refine (follows_any _ _).mono ?_; rintro e w' ⟨rfl, rfl⟩
                  rw [HR.out]
                  go_wp2_with fail
                  go_ret
                  exact ⟨ret_int (by rw [E2.out, if_pos (by unfold refBad; rw [if_neg (by rw [HR.out]; decide)]; simpa using hrf)]), B3.out⟩

theorem rlay_le (sq : Int) : ∀ ls : List Lay, layerM sq ls ≤ ls.length
  | [] => Nat.le_refl _
  | p :: ps => by unfold layerM; split <;> simp [rlay_le sq ps]
theorem rlay_step (sq : Int) : ∀ (ls : List Lay) (k : Nat), k < ls.length → k ≤ layerM sq ls →
    ((ls.getD k zLay).seq = sq → layerM sq ls = k) ∧ (¬ (ls.getD k zLay).seq = sq → k + 1 ≤ layerM sq ls)
  | [], k, h, _ => by simp at h
  | p :: ps, 0, _, _ => by
    constructor
    · intro h; simp at h; simp [layerM, h]
    · intro h; simp at h; unfold layerM; rw [if_neg h]; omega
  | p :: ps, k + 1, h, hk => by
    have hn : ¬ p.seq = sq := by
      intro hh
      unfold layerM at hk
      rw [if_pos hh] at hk
      omega
    have he : layerM sq (p :: ps) = layerM sq ps + 1 := by rw [layerM, if_neg hn]
    rw [he] at hk ⊢
    have := rlay_step sq ps k (by simpa using h) (by omega)
    simp only [List.getD_cons_succ]
    constructor
    · intro hh; rw [this.1 hh]
    · intro hh; have := this.2 hh; omega
/-- the index of the first layer with a number, or -1 -/
def layerI (sq : Int) (ls : List Lay) : Int := if layerM sq ls < ls.length then layerM sq ls else -1

set_option maxRecDepth 100000 in
set_option maxHeartbeats 2000000 in
theorem rlayer_any (q v p : Int) (bl : Option Addr) (cl : Nat) (bp : Option Addr) (np cp : Nat) (ls : List Lay) (sq : Int) (w : World) (hp : OwnL w 0 (.slice bl ls.length cl) ls) (hn : ls.length ≤ 1000) :
    Calls Tryd.prog 92 #[.agg (stkA q v p (.slice bl ls.length cl) (.slice bp np cp)), .int .i64 sq] w fun e w' => e = .returned (.int .i64 (layerI sq ls)) ∧ Below w.heap.size w w' := by
  have HP := Lib.hid (hp.below' ((Below.refl _ _).alloc (Nat.le_refl _) (.cells (stkA q v p (.slice bl ls.length cl) (.slice bp np cp)) 32))); clear hp
  go_enter Tryd.func92, Tryd.ntmps92
  go_wp2
  go_loop [5] (fun i => ∃ k : Nat, k ≤ layerM sq ls ∧ i = .int .i64 k) (fun i => ls.length - (intOf i).toNat)
  case atStart => exact ⟨0, Nat.zero_le _, rfl⟩
  case round =>
    obtain ⟨k, hk, rfl⟩ := hrel
    have hle := rlay_le sq ls
    by_cases hlt : k < ls.length
    · obtain ⟨g, kc, rfl, -, -, hr⟩ := HP.out.block (by omega)
      obtain ⟨c0, -⟩ := hr.lay k hlt
      obtain ⟨f1, f2⟩ := rlay_step sq ls k hlt hk
      generalize ls.getD k zLay = P at *
      have F1 := Lib.hid f1
      have F2 := Lib.hid f2
      clear f1 f2 hr
      by_cases h1 : P.seq = sq
      · have h1' : (P.seq == sq) = true := by simpa using h1
        have H1 := Lib.hid h1; clear h1
        go_wp2
        go_ret
        have hf := F1.out H1.out
        exact ⟨by unfold layerI; rw [hf, if_pos hlt]; rfl, (Below.refl _ _).alloc (Nat.le_refl _) _⟩
      · have h1' : (P.seq == sq) = false := by simpa using h1
        have H1 := Lib.hid h1; clear h1
        go_wp2
        go_round
        case rel => exact ⟨k + 1, F2.out H1.out, by go_num⟩
        case measure => simp [intOf]; omega
    · go_wp2
      go_ret
      exact ⟨by unfold layerI; rw [if_neg (by omega)]; rfl, (Below.refl _ _).alloc (Nat.le_refl _) _⟩

/-- the product of two words, by halves -/
theorem wide_law (x y : Int) (hx : 0 ≤ x) (hx' : x < 18446744073709551616) (hy : 0 ≤ y) (hy' : y < 18446744073709551616) :
    ∀ a b c d low mid rest : Int, a = x / 4294967296 → b = x % 4294967296 → c = y / 4294967296 → d = y % 4294967296 → low = b * d → mid = a * d + low / 4294967296 → rest = b * c + mid % 4294967296 →
      0 ≤ low ∧ low < 18446744073709551616 ∧ 0 ≤ a * d ∧ 0 ≤ mid ∧ mid < 18446744073709551616 ∧ 0 ≤ b * c ∧ 0 ≤ rest ∧ rest < 18446744073709551616 ∧ 0 ≤ a * c ∧
      (a * c + mid / 4294967296 + rest / 4294967296) * 18446744073709551616 + (rest % 4294967296 * 4294967296 + low % 4294967296) = x * y := by
  intro a b c d low mid rest ha hb hc hd hlow hmid hrest
  have a0 : 0 ≤ a := by omega
  have a1 : a ≤ 4294967295 := by omega
  have b0 : 0 ≤ b := by omega
  have b1 : b ≤ 4294967295 := by omega
  have c0 : 0 ≤ c := by omega
  have c1 : c ≤ 4294967295 := by omega
  have d0 : 0 ≤ d := by omega
  have d1 : d ≤ 4294967295 := by omega
  have up : ∀ s t : Int, 0 ≤ s → s ≤ 4294967295 → 0 ≤ t → t ≤ 4294967295 → 0 ≤ s * t ∧ s * t ≤ 18446744065119617025 := fun s t s0 s1 t0 t1 => by
    have h1 := Int.mul_nonneg s0 t0
    have h2 := Int.mul_le_mul s1 t1 t0 (by omega : (0 : Int) ≤ 4294967295)
    exact ⟨h1, by omega⟩
  obtain ⟨p0, p1⟩ := up b d b0 b1 d0 d1
  obtain ⟨q0, q1⟩ := up a d a0 a1 d0 d1
  obtain ⟨r0, r1⟩ := up b c b0 b1 c0 c1
  obtain ⟨s0, s1⟩ := up a c a0 a1 c0 c1
  have ex : x = a * 4294967296 + b := by omega
  have ey : y = c * 4294967296 + d := by omega
  have hxy : x * y = a * c * 18446744073709551616 + (a * d + b * c) * 4294967296 + b * d := by
    rw [ex, ey, Int.add_mul, Int.mul_add, Int.mul_add]
    have e1 : a * 4294967296 * (c * 4294967296) = a * c * 18446744073709551616 := by
      rw [Int.mul_assoc, ← Int.mul_assoc 4294967296 c, Int.mul_comm 4294967296 c, Int.mul_assoc c, ← Int.mul_assoc a c]
      rfl
    have e2 : a * 4294967296 * d = a * d * 4294967296 := by rw [Int.mul_assoc, Int.mul_comm 4294967296 d, ← Int.mul_assoc]
    have e3 : b * (c * 4294967296) = b * c * 4294967296 := by rw [Int.mul_assoc]
    rw [e1, e2, e3, Int.add_mul]
    omega
  rw [hxy]
  rw [← hlow] at *
  generalize a * d = ad at *
  generalize b * c = bc at *
  generalize a * c = ac at *
  refine ⟨p0, by omega, q0, by omega, by omega, r0, by omega, by omega, s0, ?_⟩
  omega

theorem u64_id {n m : Int} (h : n = m) (h0 : 0 ≤ m) (h1 : m < 18446744073709551616) : IntKind.u64.wrap n = m := by rw [h, u64_wrap]; omega

set_option maxRecDepth 100000 in
set_option maxHeartbeats 2000000 in
theorem wide_any (x y : Int) (w : World) (hx : 0 ≤ x) (hx' : x < 18446744073709551616) (hy : 0 ≤ y) (hy' : y < 18446744073709551616) :
    Calls Tryd.prog 99 #[.int .u64 x, .int .u64 y] w fun e w' => e = .returned (.tuple #[.int .u64 (x * y / 18446744073709551616), .int .u64 (x * y % 18446744073709551616)]) ∧ w = w' := by
  have hlaw := wide_law x y hx hx' hy hy' _ _ _ _ _ _ _ rfl rfl rfl rfl rfl rfl rfl
  generalize hlow : x % 4294967296 * (y % 4294967296) = low at *
  generalize had : x / 4294967296 * (y % 4294967296) = ad at *
  generalize hmid : ad + low / 4294967296 = mid at *
  generalize hbc : x % 4294967296 * (y / 4294967296) = bc at *
  generalize hrest : bc + mid % 4294967296 = rest at *
  generalize hac : x / 4294967296 * (y / 4294967296) = ac at *
  obtain ⟨l0, l1, l2, l3, l4, l5, l6, l7, l8, l9⟩ := hlaw
  have hxy : 0 ≤ x * y ∧ x * y < 18446744073709551616 * 18446744073709551616 := ⟨Int.mul_nonneg hx hy, by
    have := Int.mul_le_mul (show x ≤ 18446744073709551615 by omega) (show y ≤ 18446744073709551615 by omega) hy (by omega)
    omega⟩
  have e1 : IntKind.u64.wrap (x % 4294967296 * (y % 4294967296)) = low := u64_id hlow (by omega) (by omega)
  have e2 : IntKind.u64.wrap (x / 4294967296 * (y % 4294967296)) = ad := u64_id had (by omega) (by omega)
  have e3 : IntKind.u64.wrap (ad + low / 4294967296) = mid := u64_id hmid (by omega) (by omega)
  have e4 : IntKind.u64.wrap (x % 4294967296 * (y / 4294967296)) = bc := u64_id hbc (by omega) (by omega)
  have e5 : IntKind.u64.wrap (bc + mid % 4294967296) = rest := u64_id hrest (by omega) (by omega)
  have e6 : IntKind.u64.wrap (x / 4294967296 * (y / 4294967296)) = ac := u64_id hac (by omega) (by omega)
  have e7 : IntKind.u64.wrap (ac + mid / 4294967296) = ac + mid / 4294967296 := u64_id rfl (by omega) (by omega)
  have e8 : IntKind.u64.wrap (ac + mid / 4294967296 + rest / 4294967296) = x * y / 18446744073709551616 := u64_id (by omega) (by omega) (by omega)
  have e9 : IntKind.u64.wrap (rest % 4294967296 * 4294967296) = rest % 4294967296 * 4294967296 := u64_id rfl (by omega) (by omega)
  have e10 : IntKind.u64.wrap (rest % 4294967296 * 4294967296 + low % 4294967296) = x * y % 18446744073709551616 := u64_id (by omega) (by omega) (by omega)
  clear hlow had hmid hbc hrest hac l2 l5 l8 l9 hxy
  go_enter Tryd.func99, Tryd.ntmps99
  go_wp2
  go_ret2
  exact ⟨rfl, rfl⟩

set_option maxRecDepth 100000 in
set_option maxHeartbeats 1000000 in
theorem rmag_any (a : Int) (w : World) (h0 : 0 ≤ a) (h1 : a ≤ 9223372036854775807) : Calls Tryd.prog 100 #[.int .i64 a] w fun e w' => e = .returned (.int .u64 a) ∧ w = w' := by
  have t : decide (a < 0) = false := by simpa using h0
  have hw : IntKind.u64.wrap a = a := wraps_u64 a h0 (by omega)
  go_enter Tryd.func100, Tryd.ntmps100
  go_wp2
  go_ret
  exact ⟨rfl, rfl⟩

set_option maxRecDepth 100000 in
set_option maxHeartbeats 1000000 in
theorem raway_any (c r : Int) (neg odd : Bool) (w : World) (hr : 0 ≤ r) (hr' : r < c) (hc : c ≤ 18446744073709551615) :
    Calls Tryd.prog 102 #[.int .i64 4, .bool neg, .bool odd, .int .u64 r, .int .u64 c] w fun e w' => e = .returned (.bool (decide (c - r < r) || (decide (r = c - r) && odd))) ∧ w = w' := by
  have hw : IntKind.u64.wrap (c - r) = c - r := by rw [u64_wrap]; omega
  by_cases g : c - r < r
  · have g' : decide (c - r < r) = true := by simpa using g
    go_enter Tryd.func102, Tryd.ntmps102
    go_wp2
    go_ret
    exact ⟨ret_bool (by simp [g]), rfl⟩
  · have g' : decide (c - r < r) = false := by simpa using g
    by_cases k : r = c - r
    · have k' : (r == c - r) = true := by simpa using k
      have K := Lib.hid k
      clear k
      go_enter Tryd.func102, Tryd.ntmps102
      go_wp2
      go_ret
      exact ⟨ret_bool (by simp [← K.out]), rfl⟩
    · have k' : (r == c - r) = false := by simpa using k
      go_enter Tryd.func102, Tryd.ntmps102
      go_wp2
      go_ret
      exact ⟨ret_bool (by simp), rfl⟩

/-- what stands before round i: N is divided by c -/
structure DvI (N c : Int) (i : Nat) (hi lo qh ql r : Int) : Prop where
  b1 : 0 ≤ hi ∧ hi < 18446744073709551616
  b2 : 0 ≤ lo ∧ lo < 18446744073709551616
  b3 : 0 ≤ qh ∧ qh < 18446744073709551616
  b4 : 0 ≤ ql ∧ ql < 18446744073709551616
  b5 : 0 ≤ r ∧ r < c
  eq : ∃ P : Int, N * 2 ^ i = P * 340282366920938463463374607431768211456 + (hi * 18446744073709551616 + lo) ∧ (qh * 18446744073709551616 + ql) * c + r = P

theorem pow_le_128 (i : Nat) (h : i ≤ 128) : (2 : Int) ^ i ≤ 340282366920938463463374607431768211456 := by
  have h1 : (2 : Nat) ^ i ≤ 2 ^ 128 := Nat.pow_le_pow_right (by decide) h
  have h2 : ((2 ^ i : Nat) : Int) ≤ ((2 ^ 128 : Nat) : Int) := Int.ofNat_le.2 h1
  simpa using h2

theorem dv_step {N c : Int} {i : Nat} {hi lo qh ql r : Int} (hN : 0 ≤ N) (hN' : N < 340282366920938463463374607431768211456) (hc : 1 ≤ c) (hc' : c ≤ 9223372036854775808) (hi128 : i < 128) (h : DvI N c i hi lo qh ql r) :
    r < 9223372036854775808 ∧ 2 * r + hi / 9223372036854775808 < 18446744073709551616 ∧ 2 * qh + ql / 9223372036854775808 < 18446744073709551616 ∧
    (2 * ql) % 18446744073709551616 + 1 < 18446744073709551616 ∧
    (c ≤ 2 * r + hi / 9223372036854775808 → DvI N c (i + 1) ((2 * hi + lo / 9223372036854775808) % 18446744073709551616) ((2 * lo) % 18446744073709551616) (2 * qh + ql / 9223372036854775808) ((2 * ql) % 18446744073709551616 + 1) (2 * r + hi / 9223372036854775808 - c)) ∧
    (¬ c ≤ 2 * r + hi / 9223372036854775808 → DvI N c (i + 1) ((2 * hi + lo / 9223372036854775808) % 18446744073709551616) ((2 * lo) % 18446744073709551616) (2 * qh + ql / 9223372036854775808) ((2 * ql) % 18446744073709551616) (2 * r + hi / 9223372036854775808)) := by
  obtain ⟨⟨a0, a1⟩, ⟨b0, b1⟩, ⟨c0, c1⟩, ⟨d0, d1⟩, ⟨r0, r1⟩, P, e1, e2⟩ := h
  have hM : N * 2 ^ (i + 1) = 2 * (N * 2 ^ i) := by rw [Int.pow_succ, ← Int.mul_assoc, Int.mul_comm]
  have hP : (2 * P + hi / 9223372036854775808) ≤ N := by
    have h1 : N * 2 ^ (i + 1) ≤ N * 340282366920938463463374607431768211456 := Int.mul_le_mul_of_nonneg_left (pow_le_128 (i + 1) (by omega)) hN
    rw [hM, e1] at h1
    omega
  have hq0 : 0 ≤ qh * 18446744073709551616 + ql := by omega
  have hqc : ∀ b : Int, (2 * (qh * 18446744073709551616 + ql) + b) * c = 2 * ((qh * 18446744073709551616 + ql) * c) + b * c := fun b => by rw [Int.add_mul, Int.mul_assoc]
  have hqle : qh * 18446744073709551616 + ql ≤ (qh * 18446744073709551616 + ql) * c := by
    have := Int.mul_le_mul_of_nonneg_left hc hq0
    omega
  have hwq : (2 * qh + ql / 9223372036854775808) * 18446744073709551616 + (2 * ql) % 18446744073709551616 = 2 * (qh * 18446744073709551616 + ql) := by omega
  have hlow : ((2 * hi + lo / 9223372036854775808) % 18446744073709551616) * 18446744073709551616 + (2 * lo) % 18446744073709551616 = 2 * (hi * 18446744073709551616 + lo) - (hi / 9223372036854775808) * 340282366920938463463374607431768211456 := by omega
  have hqh : 2 * qh + ql / 9223372036854775808 < 18446744073709551616 := by omega
  refine ⟨by omega, by omega, hqh, by omega, fun hle => ?_, fun hlt => ?_⟩
  · refine ⟨by omega, by omega, by omega, by omega, by omega, 2 * P + hi / 9223372036854775808, ?_, ?_⟩
    · rw [hM, e1, hlow]; omega
    · have h3 := hqc 1
      rw [show (2 * qh + ql / 9223372036854775808) * 18446744073709551616 + ((2 * ql) % 18446744073709551616 + 1) = 2 * (qh * 18446744073709551616 + ql) + 1 by omega, h3]
      omega
  · refine ⟨by omega, by omega, by omega, by omega, by omega, 2 * P + hi / 9223372036854775808, ?_, ?_⟩
    · rw [hM, e1, hlow]; omega
    · have h3 := hqc 0
      rw [hwq, show 2 * (qh * 18446744073709551616 + ql) = 2 * (qh * 18446744073709551616 + ql) + 0 by omega, h3]
      omega
theorem dv_start {hi lo c : Int} (h0 : 0 ≤ hi ∧ hi < 18446744073709551616) (h1 : 0 ≤ lo ∧ lo < 18446744073709551616) (hc : 1 ≤ c) : DvI (hi * 18446744073709551616 + lo) c 0 hi lo 0 0 0 :=
  ⟨h0, h1, by omega, by omega, by omega, 0, by simp, by simp⟩
theorem dv_end {N c hi lo qh ql r : Int} (hc : 1 ≤ c) (h : DvI N c 128 hi lo qh ql r) : qh * 18446744073709551616 + ql = N / c ∧ r = N % c := by
  obtain ⟨⟨a0, a1⟩, ⟨b0, b1⟩, ⟨c0, c1⟩, ⟨d0, d1⟩, ⟨r0, r1⟩, P, e1, e2⟩ := h
  have hp : (2 : Int) ^ 128 = 340282366920938463463374607431768211456 := by decide
  rw [hp] at e1
  have hPN : P = N := by omega
  subst hPN
  rw [← e2]
  generalize qh * 18446744073709551616 + ql = Q
  have e : Q * c + r = r + Q * c := Int.add_comm _ _
  rw [e]
  constructor
  · rw [Int.add_mul_ediv_right _ _ (by omega : c ≠ 0), Int.ediv_eq_zero_of_lt r0 r1]; omega
  · rw [Int.add_mul_emod_self_right, Int.emod_eq_of_lt r0 r1]

set_option maxRecDepth 100000 in
set_option maxHeartbeats 4000000 in
theorem rdivide_any (hi lo c : Int) (w : World) (h0 : 0 ≤ hi ∧ hi < 18446744073709551616) (h1 : 0 ≤ lo ∧ lo < 18446744073709551616) (hc : 1 ≤ c) (hc' : c ≤ 9223372036854775808) :
    Calls Tryd.prog 101 #[.int .u64 hi, .int .u64 lo, .int .u64 c] w fun e w' => (∃ qh ql, e = .returned (.tuple #[.int .u64 qh, .int .u64 ql, .int .u64 ((hi * 18446744073709551616 + lo) % c)]) ∧ 0 ≤ qh ∧ 0 ≤ ql ∧ ql < 18446744073709551616 ∧ qh * 18446744073709551616 + ql = (hi * 18446744073709551616 + lo) / c) ∧ w = w' := by
  have hS := dv_start h0 h1 hc
  have hN : 0 ≤ hi * 18446744073709551616 + lo := by omega
  have hN' : hi * 18446744073709551616 + lo < 340282366920938463463374607431768211456 := by omega
  generalize hi * 18446744073709551616 + lo = N at *
  have HS := Lib.hid hS; clear hS h0 h1
  go_enter Tryd.func101, Tryd.ntmps101
  go_wp2
  go_loopg [0, 1, 9, 10, 11, 12] 128 (fun g a b x y z i wx => ∃ (k : Nat) (hi lo qh ql r : Int), a = .int .u64 hi ∧ b = .int .u64 lo ∧ x = .int .u64 qh ∧ y = .int .u64 ql ∧ z = .int .u64 r ∧ i = .int .i64 k ∧ k ≤ 128 ∧ g = 128 - k ∧ DvI N c k hi lo qh ql r ∧ wx = w)
  case atStart => exact ⟨0, hi, lo, 0, 0, 0, rfl, rfl, rfl, rfl, rfl, rfl, by omega, rfl, HS.out, rfl⟩
  case round =>
    obtain ⟨k, hi, lo, qh, ql, r, rfl, rfl, rfl, rfl, rfl, rfl, hk, hgk, hI, rfl⟩ := hrel
    have HGK := Lib.hid hgk; clear hgk
    by_cases hk1 : k < 128
    · have t1 : decide ((k : Int) < 128) = true := by simp; omega
      obtain ⟨s1, s2, s3, s4, s5, s6⟩ := dv_step hN hN' hc hc' hk1 hI
      obtain ⟨a0, a1⟩ := hI.b1
      obtain ⟨b0, b1⟩ := hI.b2
      obtain ⟨c0, c1⟩ := hI.b3
      obtain ⟨d0, d1⟩ := hI.b4
      obtain ⟨r0, r1⟩ := hI.b5
      have HI := Lib.hid hI; clear hI HS
      have t2 : decide (9223372036854775808 ≤ r) = false := by simp; omega
      have e1 : IntKind.u64.wrap (2 * r) = 2 * r := u64_id rfl (by omega) (by omega)
      generalize hR : 2 * r + hi / 9223372036854775808 = R at *
      have e2 : IntKind.u64.wrap (2 * r + hi / 9223372036854775808) = R := u64_id hR (by omega) (by omega)
      generalize hH : (2 * hi + lo / 9223372036854775808) % 18446744073709551616 = H at *
      generalize ht : IntKind.u64.wrap (2 * hi) = t at *
      have e3 : IntKind.u64.wrap (t + lo / 9223372036854775808) = H := by rw [← ht, u64_wrap, u64_wrap]; omega
      generalize hL : (2 * lo) % 18446744073709551616 = L at *
      have e4 : IntKind.u64.wrap (2 * lo) = L := by rw [u64_wrap]; exact hL
      have e5 : IntKind.u64.wrap (2 * qh) = 2 * qh := u64_id rfl (by omega) (by omega)
      generalize hQH : 2 * qh + ql / 9223372036854775808 = QH at *
      have e6 : IntKind.u64.wrap (2 * qh + ql / 9223372036854775808) = QH := u64_id hQH (by omega) (by omega)
      generalize hQL : (2 * ql) % 18446744073709551616 = QL at *
      have e7 : IntKind.u64.wrap (2 * ql) = QL := by rw [u64_wrap]; exact hQL
      have e8 : IntKind.u64.wrap (QL + 1) = QL + 1 := u64_id rfl (by omega) (by omega)
      have S5 := Lib.hid s5; have S6 := Lib.hid s6; clear s5 s6 s3 s4
      by_cases hle : c ≤ R
      · have t3 : decide (c ≤ R) = true := by simpa using hle
        have e9 : IntKind.u64.wrap (R - c) = R - c := u64_id rfl (by omega) (by omega)
        have HI2 := Lib.hid (S5.out hle)
        clear hR hH hL hQH hQL hle
        go_wp2
        go_roundg (128 - (k + 1))
        case measure => rw [HGK.out]; omega
        case rel => exact ⟨k + 1, _, _, _, _, _, rfl, rfl, rfl, rfl, rfl, by go_num, by omega, rfl, HI2.out, rfl⟩
      · have t3 : decide (c ≤ R) = false := by simpa using hle
        have HI2 := Lib.hid (S6.out hle)
        clear hR hH hL hQH hQL hle
        go_wp2
        go_roundg (128 - (k + 1))
        case measure => rw [HGK.out]; omega
        case rel => exact ⟨k + 1, _, _, _, _, _, rfl, rfl, rfl, rfl, rfl, by go_num, by omega, rfl, HI2.out, rfl⟩
    · have hk2 : k = 128 := by omega
      subst hk2
      obtain ⟨f1, f2⟩ := dv_end hc hI
      have F1 := Lib.hid f1; have F2 := Lib.hid f2; have HI := Lib.hid hI; clear f1 f2 hI HS
      go_wp2
      refine bodyPost_ret (v := .tuple #[.int .u64 qh, .int .u64 ql, .int .u64 r]) (by simp [results, Tryd.results101, go_sem]) rfl ⟨⟨qh, ql, by rw [F2.out], HI.out.b3.1, HI.out.b4.1, HI.out.b4.2, F1.out⟩, rfl⟩

theorem md_nn (a b c : Int) (ha : 0 ≤ a) (hb : 0 ≤ b) (hc : 1 ≤ c) : mulDivM a b c 4 = mdEnd false 4 (a * b / c) (a * b % c) c := by
  have hm : ∀ n : Int, 0 ≤ n → magM n = n := fun n h => by unfold magM; rw [if_neg (by omega)]
  unfold mulDivM
  rw [if_neg (by omega), if_neg (by omega), hm a ha, hm b hb, hm c (by omega)]
  have hn : negM a b c = false := by
    unfold negM
    rw [show decide (a < 0) = false by simpa using ha, show decide (b < 0) = false by simpa using hb, show decide (c < 0) = false by simp; omega]
    simp
  rw [hn]
theorem away_4 (odd : Bool) (r c : Int) (hr : 0 ≤ r) (hc : r < c) : awayM 4 false odd r c = (decide (c - r < r) || (decide (r = c - r) && odd)) := by
  unfold awayM
  by_cases h : r = 0
  · rw [if_pos h]
    subst h
    have h1 : decide (c - 0 < 0) = false := by simp; omega
    have h2 : decide ((0 : Int) = c - 0) = false := by simp; omega
    rw [h1, h2]; rfl
  · rw [if_neg h, if_neg (by omega), if_neg (by omega), if_pos rfl]

set_option maxRecDepth 100000 in
set_option maxHeartbeats 4000000 in
theorem rmuldiv_any (a b c : Int) (w : World) (ha : 0 ≤ a) (ha' : a ≤ 9223372036854775807) (hb : 0 ≤ b) (hb' : b ≤ 9223372036854775807) (hc : 1 ≤ c) (hc' : c ≤ 9223372036854775807) :
    Calls Tryd.prog 93 #[.int .i64 a, .int .i64 b, .int .i64 c, .int .i64 4] w fun e w' => e = .returned (.tuple #[.int .i64 (mulDivM a b c 4).1, .int .i64 (mulDivM a b c 4).2]) ∧ w = w' := by
  have hE := md_nn a b c ha hb hc
  have hp := Int.mul_nonneg ha hb
  have hp2 : a * b < 340282366920938463463374607431768211456 := by
    have := Int.mul_le_mul ha' hb' hb (by omega)
    omega
  have hwd := wide_any a b w ha (by omega) hb (by omega)
  have hdv := rdivide_any (a * b / 18446744073709551616) (a * b % 18446744073709551616) c w (by omega) (by omega) hc (by omega)
  rw [show a * b / 18446744073709551616 * 18446744073709551616 + a * b % 18446744073709551616 = a * b by omega] at hdv
  have hR0 := Int.emod_nonneg (a * b) (b := c) (by omega)
  have hR1 := Int.emod_lt_of_pos (a * b) (b := c) (by omega)
  have hm1 := rmag_any a w ha ha'
  have hm2 := rmag_any b w hb hb'
  have hm3 := rmag_any c w (by omega) hc'
  have hE2 := Lib.hid hE; clear hE
  generalize a * b / c = Q at *
  generalize a * b % c = R at *
  have hZ : (c == 0) = false := by simp; omega
  have ta : decide (a < 0) = false := by simpa using ha
  have tb : decide (b < 0) = false := by simpa using hb
  have tc : decide (c < 0) = false := by simp; omega
  have haw := fun odd => raway_any c R false odd w hR0 hR1 (by omega)
  have hA := fun odd => away_4 odd R c hR0 hR1
  go_enter Tryd.func93, Tryd.ntmps93
  go_wp2_with fail
  refine hm1.mono ?_; rintro e w1 ⟨rfl, rfl⟩
  go_wp2_with fail
  refine hm2.mono ?_; rintro e w1 ⟨rfl, rfl⟩
  go_wp2_with fail
  refine hwd.mono ?_; rintro e w1 ⟨rfl, rfl⟩
  go_wp2_with fail
  refine hm3.mono ?_; rintro e w1 ⟨rfl, rfl⟩
  go_wp2_with fail
  refine hdv.mono ?_; rintro e w1 ⟨⟨qh, ql, rfl, q0, l0, l1, hq⟩, rfl⟩
  clear hdv hwd hm1 hm2
  by_cases h1 : 0 < qh
  · have t1 : decide (0 < qh) = true := by simpa using h1
    have hF : mulDivM a b c 4 = (0, 4) := by rw [hE2.out]; unfold mdEnd; rw [if_pos (by omega)]
    have HF := Lib.hid hF; clear hF h1 hq
    go_wp2_with fail
    go_ret2
    exact ⟨ret_int2 (by rw [HF.out]) (by rw [HF.out]), rfl⟩
  have t1 : decide (0 < qh) = false := by simpa using h1
  have hqQ : ql = Q := by omega
  by_cases h2 : 9223372036854775808 < ql
  · have t2 : decide (9223372036854775808 < ql) = true := by simpa using h2
    have hF : mulDivM a b c 4 = (0, 4) := by
      rw [hE2.out]; unfold mdEnd; rw [if_neg (by omega)]
      split
      · split
        · rfl
        · unfold signedM; rw [if_neg (by simp), if_pos (by omega)]
      · unfold signedM; rw [if_neg (by simp), if_pos (by omega)]
    have HF := Lib.hid hF; clear hF h1 h2 hq hqQ
    go_wp2_with fail
    go_ret2
    exact ⟨ret_int2 (by rw [HF.out]) (by rw [HF.out]), rfl⟩
  have t2 : decide (9223372036854775808 < ql) = false := by simpa using h2
  have HE3 := Lib.hid (show mulDivM a b c 4 = mdEnd false 4 ql R c by rw [hE2.out, hqQ])
  clear hE2 h1 hq hqQ
  go_wp2_with fail
  refine hm3.mono ?_; rintro e w1 ⟨rfl, rfl⟩
  go_wp2_with fail
  refine (haw _).mono ?_; rintro e w1 ⟨rfl, rfl⟩
  rw [← hA]
  have HE4 := Lib.hid (show mulDivM a b c 4 = if awayM 4 false (ql % 2 == 1) R c then signedM false (ql + 1) else signedM false ql by rw [HE3.out]; unfold mdEnd; rw [if_neg (by omega), if_neg (by omega : ¬ ql = 18446744073709551615)])
  clear hA haw hm3 HE3
  generalize awayM 4 false (ql % 2 == 1) R c = B at *
  cases B with
  | true =>
    obtain ⟨n, hn⟩ : ∃ n, n = ql + 1 := ⟨_, rfl⟩
    have hw : IntKind.u64.wrap (ql + 1) = n := by rw [hn]; exact wraps_u64 _ (by omega) (by omega)
    have n0 : 0 ≤ n := by omega
    have n1 : n < 18446744073709551616 := by omega
    by_cases h3 : 9223372036854775808 < n
    · have t3 : decide (9223372036854775808 < n) = true := by simpa using h3
      have HF := Lib.hid (show mulDivM a b c 4 = (0, 4) by rw [HE4.out, if_pos rfl, ← hn]; unfold signedM; rw [if_neg (by simp), if_pos (by omega)])
      clear hn h3 h2
      go_wp2_with fail
      go_ret2
      exact ⟨ret_int2 (by rw [HF.out]) (by rw [HF.out]), rfl⟩
    · have t3 : decide (9223372036854775808 < n) = false := by simpa using h3
      by_cases h4 : n = 9223372036854775808
      · have t4 : (n == 9223372036854775808) = true := by simpa using h4
        have HF := Lib.hid (show mulDivM a b c 4 = (0, 4) by rw [HE4.out, if_pos rfl, ← hn]; unfold signedM; rw [if_neg (by simp), if_pos (by omega)])
        clear hn h3 h2 h4
        go_wp2_with fail
        go_ret2
        exact ⟨ret_int2 (by rw [HF.out]) (by rw [HF.out]), rfl⟩
      · have t4 : (n == 9223372036854775808) = false := by simpa using h4
        have HF := Lib.hid (show mulDivM a b c 4 = (n, 0) by rw [HE4.out, if_pos rfl, ← hn]; unfold signedM; rw [if_neg (by simp), if_neg (by omega)])
        have hv : IntKind.i64.wrap n = n := i64_id _ (by omega) (by omega)
        clear hn h3 h2 h4
        go_wp2_with fail
        go_ret2
        exact ⟨ret_int2 (by rw [HF.out]) (by rw [HF.out]), rfl⟩
  | false =>
    by_cases h4 : ql = 9223372036854775808
    · have t4 : (ql == 9223372036854775808) = true := by simpa using h4
      have HF := Lib.hid (show mulDivM a b c 4 = (0, 4) by rw [HE4.out, if_neg (by simp)]; unfold signedM; rw [if_neg (by simp), if_pos (by omega)])
      clear h2 h4
      go_wp2_with fail
      go_ret2
      exact ⟨ret_int2 (by rw [HF.out]) (by rw [HF.out]), rfl⟩
    · have t4 : (ql == 9223372036854775808) = false := by simpa using h4
      have HF := Lib.hid (show mulDivM a b c 4 = (ql, 0) by rw [HE4.out, if_neg (by simp)]; unfold signedM; rw [if_neg (by simp), if_neg (by omega)])
      have hv : IntKind.i64.wrap ql = ql := i64_id _ (by omega) (by omega)
      clear h2 h4
      go_wp2_with fail
      go_ret2
      exact ⟨ret_int2 (by rw [HF.out]) (by rw [HF.out]), rfl⟩

set_option maxRecDepth 100000 in
set_option maxHeartbeats 1000000 in
theorem rpart_any (v q n : Int) (w : World) (h0 : 0 ≤ v) (h1 : v ≤ 9223372036854775807) (q0 : 0 ≤ q) (q1 : q ≤ 9223372036854775807) (n0 : 1 ≤ n) (n1 : n ≤ 9223372036854775807) :
    Calls Tryd.prog 98 #[.int .i64 v, .int .i64 q, .int .i64 n] w fun e w' => e = .returned (.int .i64 (partM v q n)) ∧ w = w' := by
  have hm := rmuldiv_any v q n w h0 h1 q0 q1 n0 n1
  by_cases h : q = n
  · have t : (q == n) = true := by simpa using h
    have H := Lib.hid (show partM v q n = v by unfold partM; rw [if_pos h])
    clear h hm
    go_enter Tryd.func98, Tryd.ntmps98
    go_wp2_with fail
    go_ret
    exact ⟨by rw [H.out]; rfl, rfl⟩
  · have t : (q == n) = false := by simpa using h
    have H := Lib.hid (show partM v q n = (mulDivM v q n 4).1 by unfold partM; rw [if_neg h])
    clear h
    go_enter Tryd.func98, Tryd.ntmps98
    go_wp2_with fail
    refine hm.mono ?_; rintro e w1 ⟨rfl, rfl⟩
    go_wp2_with fail
    go_ret
    exact ⟨by rw [H.out]; rfl, rfl⟩

set_option maxRecDepth 100000 in
set_option maxHeartbeats 1000000 in
theorem rshare_any (p : Pst) (q : Int) (w : World) (hp : GP p) (q0 : 1 ≤ q) (q1 : q ≤ p.qty - p.used) :
    Calls Tryd.prog 91 #[.agg #[.int .i64 p.seq, .int .i64 p.kind, .string p.lot, .int .i64 p.qty, .int .i64 p.val, .int .i64 p.used, .int .i64 p.uval], .int .i64 q] w fun e w' => e = .returned (.int .i64 (partM (wrap64 (p.val - p.uval)) q (wrap64 (p.qty - p.used)))) ∧ Below w.heap.size w w' := by
  obtain ⟨h1, h2, h3, h4, h5, h6, h7, h8⟩ := hp
  have e1 : wrap64 (p.val - p.uval) = p.val - p.uval := w_id _ (by omega) (by omega)
  have e2 : wrap64 (p.qty - p.used) = p.qty - p.used := w_id _ (by omega) (by omega)
  rw [e1, e2]
  have e1' : IntKind.i64.wrap (p.val - p.uval) = p.val - p.uval := i64_id _ (by omega) (by omega)
  have e2' : IntKind.i64.wrap (p.qty - p.used) = p.qty - p.used := i64_id _ (by omega) (by omega)
  have hm := fun w => rpart_any (p.val - p.uval) q (p.qty - p.used) w (by omega) (by omega) (by omega) (by omega) (by omega) (by omega)
  clear h1 h2 h3 h4 h5 h6 h7 h8 e1 e2
  go_enter Tryd.func91, Tryd.ntmps91
  go_wp2_with fail
  refine (hm _).mono ?_; rintro e w1 ⟨rfl, rfl⟩
  go_wp2_with fail
  go_ret
  exact ⟨rfl, (Below.refl _ _).alloc (Nat.le_refl _) _⟩

/-- the index of the movement that a return refers to, and the error -/
def retM (kd : Int) (s : Stk) (m : Mov) : Int × Int :=
  if s.psts.length ≤ findM kd m.ref s.psts then (0, 28)
  else if wrap64 ((s.psts.getD (findM kd m.ref s.psts) zPst).qty - (s.psts.getD (findM kd m.ref s.psts) zPst).used) < m.qty then (0, 21) else (findM kd m.ref s.psts, 0)

set_option maxRecDepth 100000 in
set_option maxHeartbeats 4000000 in
theorem rret_any (s : Stk) (m : Mov) (kd : Int) (bl : Option Addr) (nl cl : Nat) (bp : Option Addr) (cp : Nat) (w : World) (hp : OwnP w 0 (.slice bp s.psts.length cp) s.psts) (hn : s.psts.length ≤ 900) (hkd : kd = if m.kind = 3 then 2 else 1) :
    Calls Tryd.prog 90 #[.agg #[.int .i64 s.qty, .int .i64 s.val, .int .i64 s.price, .slice bl nl cl, .slice bp s.psts.length cp], m.v] w fun e w' => e = .returned (.tuple #[.int .i64 (retM kd s m).1, .int .i64 (retM kd s m).2]) ∧ Below w.heap.size w w' := by
  have hk0 : ¬ kd = 0 := by rw [hkd]; split <;> omega
  have hA : Below w.heap.size w ((w.alloc (.cells #[.int .i64 s.qty, .int .i64 s.val, .int .i64 s.price, .slice bl nl cl, .slice bp s.psts.length cp] 32)).alloc (.cells (mCells m) 38)) := ((Below.refl _ _).alloc (Nat.le_refl _) _).alloc (by simp) _
  have hB : Blk ((w.alloc (.cells #[.int .i64 s.qty, .int .i64 s.val, .int .i64 s.price, .slice bl nl cl, .slice bp s.psts.length cp] 32)).alloc (.cells (mCells m) 38)) w.heap.size 32 #[.int .i64 s.qty, .int .i64 s.val, .int .i64 s.price, .slice bl nl cl, .slice bp s.psts.length cp] := (Blk.new _ _ _).alloc _
  have hM : Blk ((w.alloc (.cells #[.int .i64 s.qty, .int .i64 s.val, .int .i64 s.price, .slice bl nl cl, .slice bp s.psts.length cp] 32)).alloc (.cells (mCells m) 38)) (w.heap.size + 1) 38 (mCells m) := Blk.new2 _ _ _ _
  have hop := hp.below' hA
  have hf := fun w' h => find_any s.qty s.val s.price bl nl cl bp cp s.psts kd m.ref w' hk0 h (by omega)
  have HA := Lib.hid hA; have HB := Lib.hid hB; have HM := Lib.hid hM; have HOP := Lib.hid hop; clear hA hB hM hop hp
  have main : ∀ t3 : Bool, (m.kind == 3) = t3 → Calls Tryd.prog 90 #[.agg #[.int .i64 s.qty, .int .i64 s.val, .int .i64 s.price, .slice bl nl cl, .slice bp s.psts.length cp], m.v] w fun e w' => e = .returned (.tuple #[.int .i64 (retM kd s m).1, .int .i64 (retM kd s m).2]) ∧ Below w.heap.size w w' := by
    intro t3 ht3
    have hkv : kd = if t3 = true then 2 else 1 := by rw [hkd, ← ht3]; simp
    have fin : ∀ w1, Below ((w.alloc (.cells #[.int .i64 s.qty, .int .i64 s.val, .int .i64 s.price, .slice bl nl cl, .slice bp s.psts.length cp] 32)).alloc (.cells (mCells m) 38)).heap.size ((w.alloc (.cells #[.int .i64 s.qty, .int .i64 s.val, .int .i64 s.price, .slice bl nl cl, .slice bp s.psts.length cp] 32)).alloc (.cells (mCells m) 38)) w1 → Below w.heap.size w w1 := fun w1 h => HA.out.trans (h.mono HA.out.size)
    have FIN := Lib.hid fin; clear fin
    have hkd2 := hkd
    clear hkd
    cases t3 with
    | true =>
      simp only [if_true] at hkv
      subst hkv
      clear hkd2
      go_enter Tryd.func90, Tryd.ntmps90
      go_wp2_with fail
      refine (hf _ HOP.out).mono ?_; rintro e w1 ⟨rfl, hb1⟩
      have hB1 := HB.out.below' hb1
      have hM1 := HM.out.below' hb1
      have b4 : w1.cell? ⟨w.heap.size, 4, none⟩ = some (.slice bp s.psts.length cp) := by rw [hB1.cell]; rfl
      have m4 : w1.cell? ⟨w.heap.size + 1, 4, none⟩ = some (.int .i64 m.qty) := by rw [hM1.cell]; rfl
      have BEL := Lib.hid (FIN.out _ hb1)
      have hop1 := HOP.out.below' hb1
      clear hB1 hM1 hb1 HA HB HM HOP FIN hf
      by_cases hlt : findM 2 m.ref s.psts < s.psts.length
      · have hfi : findI 2 m.ref s.psts = (findM 2 m.ref s.psts : Nat) := by unfold findI; rw [if_pos hlt]
        rw [hfi]
        obtain ⟨g, kc, rfl, -, -, hr⟩ := hop1.block (by omega)
        obtain ⟨c0, c1, c2, c3, c4, c5, c6⟩ := hr.pst _ hlt
        have hret : retM 2 s m = if wrap64 ((s.psts.getD (findM 2 m.ref s.psts) zPst).qty - (s.psts.getD (findM 2 m.ref s.psts) zPst).used) < m.qty then ((0 : Int), (21 : Int)) else ((findM 2 m.ref s.psts : Int), (0 : Int)) := by unfold retM; rw [if_neg (by omega)]
        have HRET := Lib.hid hret
        clear hret hfi hop1 hr
        generalize findM 2 m.ref s.psts = i at *
        generalize s.psts.getD i zPst = P at *
        have t4 : decide ((i : Int) < 0) = false := by simp
        have i1 : (0 : Int) ≤ (i : Int) := by omega
        have i2 : (i : Int) < (s.psts.length : Int) := by omega
        have hw := w64 (P.qty - P.used)
        generalize wrap64 (P.qty - P.used) = d at *
        by_cases hd : d < m.qty
        · have t5 : decide (d < m.qty) = true := by simpa using hd
          have HR := Lib.hid (show retM 2 s m = (0, 21) by rw [HRET.out, if_pos hd])
          clear hd
          go_wp2_with fail
          refine still_tail2 15 (by kernel_rfl) (by kernel_rfl) ?_
          simp only [List.take_succ_cons, List.take_zero, List.drop_succ_cons, List.drop_zero]
          repeat still_step
          refine wpStill_nil ?_
          go_wp2_with fail
          go_ret2
          exact ⟨ret_int2 (by rw [HR.out]) (by rw [HR.out]), BEL.out.drew⟩
        · have t5 : decide (d < m.qty) = false := by simpa using hd
          have HR := Lib.hid (show retM 2 s m = ((i : Int), (0 : Int)) by rw [HRET.out, if_neg hd])
          clear hd
          go_wp2_with fail
          refine still_tail2 15 (by kernel_rfl) (by kernel_rfl) ?_
          simp only [List.take_succ_cons, List.take_zero, List.drop_succ_cons, List.drop_zero]
          repeat still_step
          refine wpStill_nil ?_
          go_wp2_with fail
          go_ret2
          exact ⟨ret_int2 (by rw [HR.out]) (by rw [HR.out]), BEL.out.drew⟩
      · have hfi : findI 2 m.ref s.psts = -1 := by unfold findI; rw [if_neg hlt]
        rw [hfi]
        have HR := Lib.hid (show retM 2 s m = (0, 28) by unfold retM; rw [if_pos (by omega)])
        clear hfi hlt hop1
        go_wp2_with fail
        go_ret2
        exact ⟨ret_int2 (by rw [HR.out]) (by rw [HR.out]), BEL.out⟩
    | false =>
      simp only [Bool.false_eq_true, if_false] at hkv
      subst hkv
      clear hkd2
      go_enter Tryd.func90, Tryd.ntmps90
      go_wp2_with fail
      refine (hf _ HOP.out).mono ?_; rintro e w1 ⟨rfl, hb1⟩
      have hB1 := HB.out.below' hb1
      have hM1 := HM.out.below' hb1
      have b4 : w1.cell? ⟨w.heap.size, 4, none⟩ = some (.slice bp s.psts.length cp) := by rw [hB1.cell]; rfl
      have m4 : w1.cell? ⟨w.heap.size + 1, 4, none⟩ = some (.int .i64 m.qty) := by rw [hM1.cell]; rfl
      have BEL := Lib.hid (FIN.out _ hb1)
      have hop1 := HOP.out.below' hb1
      clear hB1 hM1 hb1 HA HB HM HOP FIN hf
      by_cases hlt : findM 1 m.ref s.psts < s.psts.length
      · have hfi : findI 1 m.ref s.psts = (findM 1 m.ref s.psts : Nat) := by unfold findI; rw [if_pos hlt]
        rw [hfi]
        obtain ⟨g, kc, rfl, -, -, hr⟩ := hop1.block (by omega)
        obtain ⟨c0, c1, c2, c3, c4, c5, c6⟩ := hr.pst _ hlt
        have hret : retM 1 s m = if wrap64 ((s.psts.getD (findM 1 m.ref s.psts) zPst).qty - (s.psts.getD (findM 1 m.ref s.psts) zPst).used) < m.qty then ((0 : Int), (21 : Int)) else ((findM 1 m.ref s.psts : Int), (0 : Int)) := by unfold retM; rw [if_neg (by omega)]
        have HRET := Lib.hid hret
        clear hret hfi hop1 hr
        generalize findM 1 m.ref s.psts = i at *
        generalize s.psts.getD i zPst = P at *
        have t4 : decide ((i : Int) < 0) = false := by simp
        have i1 : (0 : Int) ≤ (i : Int) := by omega
        have i2 : (i : Int) < (s.psts.length : Int) := by omega
        have hw := w64 (P.qty - P.used)
        generalize wrap64 (P.qty - P.used) = d at *
        by_cases hd : d < m.qty
        · have t5 : decide (d < m.qty) = true := by simpa using hd
          have HR := Lib.hid (show retM 1 s m = (0, 21) by rw [HRET.out, if_pos hd])
          clear hd
          go_wp2_with fail
          refine still_tail2 15 (by kernel_rfl) (by kernel_rfl) ?_
          simp only [List.take_succ_cons, List.take_zero, List.drop_succ_cons, List.drop_zero]
          repeat still_step
          refine wpStill_nil ?_
          go_wp2_with fail
          go_ret2
          exact ⟨ret_int2 (by rw [HR.out]) (by rw [HR.out]), BEL.out.drew⟩
        · have t5 : decide (d < m.qty) = false := by simpa using hd
          have HR := Lib.hid (show retM 1 s m = ((i : Int), (0 : Int)) by rw [HRET.out, if_neg hd])
          clear hd
          go_wp2_with fail
          refine still_tail2 15 (by kernel_rfl) (by kernel_rfl) ?_
          simp only [List.take_succ_cons, List.take_zero, List.drop_succ_cons, List.drop_zero]
          repeat still_step
          refine wpStill_nil ?_
          go_wp2_with fail
          go_ret2
          exact ⟨ret_int2 (by rw [HR.out]) (by rw [HR.out]), BEL.out.drew⟩
      · have hfi : findI 1 m.ref s.psts = -1 := by unfold findI; rw [if_neg hlt]
        rw [hfi]
        have HR := Lib.hid (show retM 1 s m = (0, 28) by unfold retM; rw [if_pos (by omega)])
        clear hfi hlt hop1
        go_wp2_with fail
        go_ret2
        exact ⟨ret_int2 (by rw [HR.out]) (by rw [HR.out]), BEL.out⟩
  exact main _ rfl
end Go.Proofs.YtboiipkbhbbgfaaDoor
