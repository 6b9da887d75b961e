/- Step's contract, joined. -/
import Derived.Test.YtboiipkbhbbgfaaDoorGc1
import Derived.Test.YtboiipkbhbbgfaaDoorGc2
import Derived.Test.YtboiipkbhbbgfaaDoorGc3
import Derived.Test.YtboiipkbhbbgfaaDoorGc4
import Derived.Test.YtboiipkbhbbgfaaDoorGc5
import Derived.Test.YtboiipkbhbbgfaaDoorGc6
namespace Go.Proofs.YtboiipkbhbbgfaaDoor
open Go.RowKit

theorem step_any (s : Stk) (m : Mov) (vl vp : Value) (w : World) (hl : Rd w 4 vl s.lays.length (laysC s.lays)) (hp : Rd w 7 vp s.psts.length (pstsC s.psts)) (hn : s.lays.length ≤ 900) (hnp : s.psts.length ≤ 900)
    (hok : LaysOk s.lays) (hpk : PstsOk s.psts) (hq : I64 m.qty) (hcost : I64 m.cost) (hlen : LengthsAt w) :
    Calls Tryd.prog 14 #[.agg (stkA s.qty s.val s.price vl vp), m.v] w fun e w' => StepPost (stepM s m) w e w' := by
  by_cases h1 : oneM m = 0
  · by_cases h2 : findM 0 m.seq s.psts < s.psts.length
    · exact step_twice s m vl vp w hl hp hn hnp hok hpk hq hcost hlen h1 h2
    · by_cases k1 : m.kind = 1
      · exact step_k1 s m vl vp w hl hp hn hnp hok hpk hq hcost hlen h1 h2 k1
      by_cases k2 : m.kind = 2
      · exact step_k2 s m vl vp w hl hp hn hnp hok hpk hq hcost hlen h1 h2 k2
      by_cases k3 : m.kind = 3
      · exact step_k3 s m vl vp w hl hp hn hnp hok hpk hq hcost hlen h1 h2 k3
      by_cases k4 : m.kind = 4
      · exact step_k4 s m vl vp w hl hp hn hnp hok hpk hq hcost hlen h1 h2 k4
      by_cases k5 : m.kind = 5
      · exact step_k5 s m vl vp w hl hp hn hnp hok hpk hq hcost hlen h1 h2 k5
      exact step_k6 s m vl vp w hl hp hn hnp hok hpk hq hcost hlen h1 h2 (by simpa using k1) (by simpa using k2) (by simpa using k3) (by simpa using k4) (by simpa using k5)
  · exact step_bad s m vl vp w hl hp hn hnp hok hpk hq hcost hlen h1
end Go.Proofs.YtboiipkbhbbgfaaDoor
