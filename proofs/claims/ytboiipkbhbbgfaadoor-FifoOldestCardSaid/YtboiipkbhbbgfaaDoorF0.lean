/- What fifo computes, on numbers and lists: no program and no memory in sight. -/
import Derived.Test.YtboiipkbhbbgfaaDoorM3
import Derived.Test.YtboiipkbhbbgfaaDoorD2
namespace Go.Proofs.YtboiipkbhbbgfaaDoor
open Go.RowKit

/-- a layer -/
structure Lay where
  seq : Int
  lot : ByteArray
  qty : Int
  val : Int
/-- a movement in the past -/
structure Pst where
  seq : Int
  kind : Int
  lot : ByteArray
  qty : Int
  val : Int
  used : Int
  uval : Int
/-- a stock -/
structure Stk where
  qty : Int
  val : Int
  price : Int
  lays : List Lay
  psts : List Pst
/-- a movement -/
structure Mov where
  seq : Int
  value : Int
  item : ByteArray
  kind : Int
  qty : Int
  cost : Int
  lot : ByteArray
  ref : Int
/-- a movement as a value -/
abbrev Mov.v (m : Mov) : Value := .agg #[.int .i64 m.seq, .int .i64 m.value, .string m.item, .int .i64 m.kind, .int .i64 m.qty, .int .i64 m.cost, .string m.lot, .int .i64 m.ref]
/-- the costs of a movement -/
structure Cst where
  seq : Int
  qty : Int
  val : Int
  var : Int

def zLay : Lay := ⟨0, ⟨#[]⟩, 0, 0⟩
def zPst : Pst := ⟨0, 0, ⟨#[]⟩, 0, 0, 0, 0⟩
def zStk : Stk := ⟨0, 0, 0, [], []⟩
def zCst : Cst := ⟨0, 0, 0, 0⟩

/-- the part of a value for q of n units -/
def partM (v q n : Int) : Int := if q = n then v else (mulDivM v q n 4).1

/-- the place of the first movement in the past with a number and a kind (0: of any kind), or the length -/
def findM (kind seq : Int) : List Pst → Nat
  | [] => 0
  | p :: ps => if p.seq = seq ∧ (kind = 0 ∨ p.kind = kind) then 0 else findM kind seq ps + 1

/-- the place of the first layer with a number, or the length -/
def layerM (seq : Int) : List Lay → Nat
  | [] => 0
  | l :: ls => if l.seq = seq then 0 else layerM seq ls + 1

/-- q units taken from layer i: their part, and the layers that are left -/
def takeM (ls : List Lay) (i : Nat) (q : Int) : Int × List Lay :=
  let l := ls.getD i zLay
  let v := partM l.val q l.qty
  (v, if wrap64 (l.qty - q) = 0 then ls.take i ++ ls.drop (i + 1) else ls.set i { l with qty := wrap64 (l.qty - q), val := wrap64 (l.val - v) })

/-- what the loop of an issue does: the sum of the parts, and the layers that are left -/
def issueM : List Lay → Int → Int → Int × List Lay
  | [], _, v => (v, [])
  | l :: ls, left, v =>
    if left ≤ 0 then (v, l :: ls)
    else if l.qty ≤ left then issueM ls (wrap64 (left - l.qty)) (wrap64 (v + l.val))
    else (wrap64 (v + partM l.val left l.qty), { l with qty := l.qty - left, val := wrap64 (l.val - partM l.val left l.qty) } :: ls)

/-- a movement, apart from the sums: the error, the layers, the past, and the costs -/
structure Out where
  err : Int
  lays : List Lay
  psts : List Pst
  cst : Cst

def receiveM (s : Stk) (m : Mov) : Out := ⟨0, s.lays ++ [⟨m.seq, m.lot, m.qty, m.cost⟩], s.psts ++ [⟨m.seq, m.kind, m.lot, m.qty, m.cost, 0, 0⟩], ⟨m.seq, m.qty, m.cost, 0⟩⟩

def bad (e : Int) (s : Stk) (m : Mov) : Out := ⟨e, s.lays, s.psts, ⟨m.seq, 0, 0, 0⟩⟩

def issueStepM (s : Stk) (m : Mov) : Out :=
  if s.qty < m.qty then bad 21 s m else
  let r := issueM s.lays m.qty 0
  ⟨0, r.2, s.psts ++ [⟨m.seq, m.kind, m.lot, m.qty, r.1, 0, 0⟩], ⟨m.seq, wrap64 (-m.qty), wrap64 (-r.1), 0⟩⟩

def backM (s : Stk) (m : Mov) : Out :=
  let i := findM 2 m.ref s.psts
  if s.psts.length ≤ i then bad 28 s m else
  let p := s.psts.getD i zPst
  if wrap64 (p.qty - p.used) < m.qty then bad 21 s m else
  let v := partM (wrap64 (p.val - p.uval)) m.qty (wrap64 (p.qty - p.used))
  ⟨0, s.lays ++ [⟨m.seq, p.lot, m.qty, v⟩], s.psts.set i { p with used := wrap64 (p.used + m.qty), uval := wrap64 (p.uval + v) }, ⟨m.seq, m.qty, v, 0⟩⟩

def sendM (s : Stk) (m : Mov) : Out :=
  let i := findM 1 m.ref s.psts
  if s.psts.length ≤ i then bad 28 s m else
  let p := s.psts.getD i zPst
  if wrap64 (p.qty - p.used) < m.qty then bad 21 s m else
  let k := layerM m.ref s.lays
  if s.lays.length ≤ k ∨ (s.lays.getD k zLay).qty < m.qty then bad 21 s m else
  let r := takeM s.lays k m.qty
  ⟨0, r.2, s.psts.set i { p with used := wrap64 (p.used + m.qty) }, ⟨m.seq, wrap64 (-m.qty), wrap64 (-r.1), wrap64 (r.1 - m.cost)⟩⟩

def landM (s : Stk) (m : Mov) : Out :=
  let i := findM 1 m.ref s.psts
  if s.psts.length ≤ i then bad 28 s m else
  let p := s.psts.getD i zPst
  if wrap64 (p.qty - p.used) < m.qty then bad 21 s m else
  let k := layerM m.ref s.lays
  if s.lays.length ≤ k then ⟨0, s.lays, s.psts, ⟨m.seq, 0, 0, wrap64 (m.cost - 0)⟩⟩ else
  let l := s.lays.getD k zLay
  let r := if l.qty = p.qty then (m.cost, 0) else mulDivM m.cost l.qty p.qty 4
  if r.2 ≠ 0 then bad 4 s m else
  ⟨0, s.lays.set k { l with val := wrap64 (l.val + r.1) }, s.psts, ⟨m.seq, 0, r.1, wrap64 (m.cost - r.1)⟩⟩

def doM (s : Stk) (m : Mov) : Out :=
  if m.kind = 1 then receiveM s m else if m.kind = 2 then issueStepM s m else if m.kind = 3 then backM s m else if m.kind = 4 then sendM s m else if m.kind = 5 then landM s m else bad 10 s m

def farM (n : Int) : Bool := decide (n < -1000000000000000) || decide (1000000000000000 < n)

def overM (ls : List Lay) (qty val var : Int) : Bool := (ls.any fun l => farM l.val) || decide (1000000000 < qty) || farM val || farM var

def inB (n lo hi : Int) : Bool := decide (lo ≤ n) && decide (n ≤ hi)
def qtyB (m : Mov) : Bool := if m.kind = 5 ∨ m.kind = 6 then m.qty == 0 else inB m.qty 1 1000000000
def costB (m : Mov) : Bool := if m.kind = 2 ∨ m.kind = 3 then m.cost == 0 else if m.kind = 5 then inB m.cost 1 1000000000000 else inB m.cost 0 1000000000000
def lotB (m : Mov) : Bool := decide (m.lot.size = 0) || (codeB m.lot && decide (m.kind = 1 ∨ m.kind = 2))
def refersB (k : Int) : Bool := decide (k = 3 ∨ k = 4 ∨ k = 5)
def refBad (m : Mov) : Bool := if refersB m.kind then decide (m.ref < 1) else !(m.ref == 0)

/-- the first error of a movement by itself -/
def oneM (m : Mov) : Int :=
  if inB m.value 0 109572 = false then 11 else if codeB m.item = false then 7 else if inB m.kind 1 6 = false then 10 else
  if qtyB m = false ∨ costB m = false then 3 else if lotB m = false then 22 else if refBad m = true then 28 else 0

structure Res where
  err : Int
  stk : Stk
  cst : Cst

/-- Step -/
def stepM (s : Stk) (m : Mov) : Res :=
  if ¬ oneM m = 0 then ⟨oneM m, zStk, zCst⟩ else
  if findM 0 m.seq s.psts < s.psts.length then ⟨8, zStk, zCst⟩ else
  let o := doM s m
  if ¬ o.err = 0 then ⟨o.err, zStk, zCst⟩ else
  let q := wrap64 (s.qty + o.cst.qty)
  let v := wrap64 (s.val + o.cst.val)
  if overM o.lays q v o.cst.var then ⟨4, zStk, zCst⟩ else ⟨0, ⟨q, v, s.price, o.lays, o.psts⟩, o.cst⟩
end Go.Proofs.YtboiipkbhbbgfaaDoor
