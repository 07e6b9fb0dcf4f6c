/- A part of the proof (RowMore): its texts in a row: Model, Base, Map, Heap, DictA, Dict, Use, Use2. Each text's own remark stands at its head. -/
import Derived.Test.YtcmndglhileeoaaGreatProg
import Derived.WalkKit
import Derived.Lib.Hide
import Derived.Deep.LoopGhost
import Derived.Outline
import Derived.Laws.AppendOwnNone
import Derived.MapKept
import Derived.Maps.Own
import Derived.Laws.CopyOwn
import Derived.Maps.AppendAt
import Derived.Deep.RegionLaw
import Derived.Deep.RegionWith
import Derived.Deep.Cut
import Derived.BigQuiet
/- The plain model of the program's layers 1 to 11 and 14 (Scan): plain Lean functions over numbers and lists, no Go and no memory. No conditions. -/
namespace Rv

abbrev Bs := List UInt8

structure Pol where
  kind : Int
  cap : Int
  num : Int
  den : Int
  width : Int
  count : Int
  keys : Int
  slots : Int
  every : Int
  seg : Int
  deriving DecidableEq, Inhabited

structure Rec where
  tick : Int
  key : ByteArray
  cost : Int
  verdict : Int
  deriving DecidableEq, Inhabited

structure Fault where
  code : Int
  at_ : Int
  deriving DecidableEq, Inhabited

structure Seal where
  re : Int
  im : Int
  deriving DecidableEq, Inhabited

structure Link where
  number : Int
  bytes : Int
  sl : Seal
  deriving DecidableEq, Inhabited

def Pol.zero : Pol := ⟨0, 0, 0, 0, 0, 0, 0, 0, 0, 0⟩
def Rec.zero : Rec := ⟨0, ByteArray.empty, 0, 0⟩
def Fault.zero : Fault := ⟨0, 0⟩
def Seal.zero : Seal := ⟨0, 0⟩
def Link.zero : Link := ⟨0, 0, .zero⟩

/-! ### bits -/
def maxNumber : Int := 4611686018427387903

def mayN (n : Int) : Bool := decide (0 ≤ n) && decide (n ≤ maxNumber)

def numN (n : Nat) : Bs := if h : n < 128 then [UInt8.ofNat n] else UInt8.ofNat (n % 128 + 128) :: numN (n / 128)
termination_by n
decreasing_by omega

/-- bits.Number's bytes; none, where it has an error. -/
def numB (n : Int) : Bs := if mayN n then numN n.toNat else []

inductive RB where
  | ok (n len : Nat)
  | bad (e : Int)
  deriving DecidableEq, Inhabited

/-- bits.Read, of what stands from its offset on: i bytes were read, their digits make n. -/
def rdGo : Nat → Nat → Bs → RB
  | _, _, [] => .bad 10
  | i, n, c :: r =>
    let n' := n + c.toNat % 128 * 128 ^ i
    if (c.toNat = 0 ∧ 0 < i) ∨ (i = 8 ∧ (128 ≤ c.toNat ∨ 4611686018427387903 < n')) then .bad 11
    else if c.toNat < 128 then .ok n' (i + 1)
    else rdGo (i + 1) n' r

def rdB (b : Bs) : RB := rdGo 0 0 b

def zig (n : Int) : Int × Int := if n < -2305843009213693952 ∨ n > 2305843009213693951 then (0, 1) else if n < 0 then (-2 * n - 1, 0) else (2 * n, 0)
def zag (u : Int) : Int × Int := if mayN u = false then (0, 1) else if u % 2 = 1 then (-(u / 2) - 1, 0) else (u / 2, 0)

/-! ### seal -/
def prime : Int := 16777199
def Seal.right (s : Seal) : Bool := decide (0 ≤ s.re) && decide (s.re < 16777199) && decide (0 ≤ s.im) && decide (s.im < 16777199)
def Seal.start : Seal := ⟨1, 2⟩
def Seal.step (s : Seal) (x : UInt8) : Seal := ⟨(s.re * 69069 - s.im * 362437 + ((x.toNat : Int) + 1)) % 16777199, (s.re * 362437 + s.im * 69069) % 16777199⟩
def Seal.adds (s : Seal) (b : Bs) : Seal := b.foldl Seal.step s
def Seal.add (s : Seal) (b : Bs) : Seal × Int := if s.right then (s.adds b, 0) else (.zero, 20)
def b3 (n : Int) : Bs := [UInt8.ofNat (n % 256).toNat, UInt8.ofNat (n / 256 % 256).toNat, UInt8.ofNat (n / 65536 % 256).toNat]
def Seal.bytes (s : Seal) : Bs := if s.right then b3 s.re ++ b3 s.im else []
def n3 (a b c : UInt8) : Int := (a.toNat : Int) + b.toNat * 256 + c.toNat * 65536
/-- seal.Read, of what stands from its offset on. -/
def Seal.read : Bs → Except Int Seal
  | a :: b :: c :: d :: e :: f :: _ => let s : Seal := ⟨n3 a b c, n3 d e f⟩; if s.right then .ok s else .error 20
  | _ => .error 10

/-! ### chain -/
def Link.first : Link := ⟨0, 0, .start⟩
def Link.may (l : Link) : Bool := decide (0 ≤ l.number) && decide (l.number ≤ 10000) && decide (0 ≤ l.bytes) && decide (l.bytes ≤ 4194304) && l.sl.right
def Link.next (l : Link) (b : Bs) : Link × Int :=
  if l.may = false then (.zero, 30) else if (b.length : Int) > 4194304 then (.zero, 2) else if l.number = 10000 then (.zero, 3)
  else (⟨l.number + 1, b.length, l.sl.adds b⟩, 0)
def Link.enc (l : Link) : Bs := if l.may then numB l.number ++ numB l.bytes ++ l.sl.bytes else []

/-! ### policy -/
def inB (n lo hi : Int) : Bool := decide (lo ≤ n) && decide (n ≤ hi)
/-- The eight fields, each with its bounds, in their order. -/
def Pol.fields (p : Pol) : List (Int × Int × Int) :=
  [(p.kind, 1, 2), (p.cap, 1, 1048576)] ++ (if p.kind = 1 then [(p.num, 1, 65536), (p.den, 1, 65536)] else [(p.width, 1, 1048576), (p.count, 1, 32)]) ++
  [(p.keys, 1, 1000), (p.slots, 1, 64), (p.every, 0, 1000), (p.seg, 1, 1000)]
def Pol.ok (p : Pol) : Bool :=
  (decide (p.kind = 1) && decide (p.width = 0) && decide (p.count = 0) || decide (p.kind = 2) && decide (p.num = 0) && decide (p.den = 0)) && p.fields.all fun f => inB f.1 f.2.1 f.2.2
def Pol.right (p : Pol) : Int := if p.ok then 0 else 40
def Pol.body (p : Pol) : Bs := [82, 69, 69, 76] ++ (p.fields.map fun f => numB f.1).flatten
def Pol.header (p : Pol) : Bs := if p.ok then p.body ++ (Seal.start.adds p.body).bytes else []

def Pol.of (kind : Int) (l : List Int) : Pol :=
  match l with
  | [cap, a, b, keys, slots, every, seg] => if kind = 1 then ⟨kind, cap, a, b, 0, 0, keys, slots, every, seg⟩ else ⟨kind, cap, 0, 0, a, b, keys, slots, every, seg⟩
  | _ => .zero

/-- k numbers from an offset on: they, and where they end; or the fault. -/
def rdMany (b : Bs) : Nat → Nat → Except Fault (List Int × Nat)
  | 0, at_ => .ok ([], at_)
  | k + 1, at_ => match rdB (b.drop at_) with
    | .bad e => .error ⟨e, at_⟩
    | .ok n len => match rdMany b k (at_ + len) with
      | .error f => .error f
      | .ok (l, to) => .ok ((n : Int) :: l, to)

def Pol.read (b : Bs) : Except Fault (Pol × Nat) :=
  if b.take 4 ≠ [82, 69, 69, 76] then .error ⟨41, 0⟩ else
  match rdB (b.drop 4) with
  | .bad e => .error ⟨e, 4⟩
  | .ok k len =>
    if k ≠ 1 ∧ k ≠ 2 then .error ⟨40, 4⟩ else
    match rdMany b 7 (4 + len) with
    | .error f => .error f
    | .ok (l, at_) =>
      let p := Pol.of k l
      if p.ok = false then .error ⟨40, 4⟩ else
      match Seal.read (b.drop at_) with
      | .error e => .error ⟨e, at_⟩
      | .ok s => if s = Seal.start.adds (b.take at_) then .ok (p, at_ + 6) else .error ⟨41, at_⟩

/-! ### dict -/
structure Dict where
  room : Nat
  keys : List ByteArray
  order : List Nat
  deriving DecidableEq, Inhabited

def Dict.new (slots : Nat) : Dict := ⟨slots, [], []⟩
def Dict.find (d : Dict) (key : ByteArray) : Option Nat := if d.keys.idxOf key < d.keys.length then some (d.keys.idxOf key) else none
/-- The slot is the one used last now. -/
def Dict.used (d : Dict) (slot : Nat) : Dict := { d with order := slot :: d.order.erase slot }
def keyOk (key : ByteArray) : Bool := decide (1 ≤ key.size) && decide (key.size ≤ 64)
/-- dict.Use of a key that may be: the dictionary, the slot, and whether the key had it. -/
def Dict.use (d : Dict) (key : ByteArray) : Dict × Nat × Bool :=
  match d.find key with
  | some s => (d.used s, s, true)
  | none =>
    if d.keys.length < d.room then
      (Dict.used { d with keys := d.keys ++ [key], order := d.order ++ [d.keys.length] } d.keys.length, d.keys.length, false)
    else
      let s := d.order.getD (d.room - 1) 0
      (Dict.used { d with keys := d.keys.set s key } s, s, false)
def Dict.touch (d : Dict) (slot : Nat) : Option (Dict × ByteArray) := if slot < d.keys.length then some (d.used slot, d.keys.getD slot ByteArray.empty) else none

/-! ### record -/
structure Coder where
  d : Dict
  tick : Int
  cost : Int
  deriving DecidableEq, Inhabited

def tickOk (n : Int) : Bool := inB n 0 1099511627776
def costOk (n : Int) : Bool := inB n 1 1048576
def verdictOk (n : Int) : Bool := inB n 0 2
def Rec.right (r : Rec) : Int :=
  if tickOk r.tick = false then 60 else if keyOk r.key = false then 61 else if costOk r.cost = false then 62 else if verdictOk r.verdict = false then 63 else 0
def bytesOf (s : ByteArray) : Bs := s.data.toList
def Coder.new (p : Pol) : Coder := ⟨Dict.new p.slots.toNat, 0, 0⟩
/-- record.Put of a record that may be, and does not fall. -/
def Coder.put (c : Coder) (r : Rec) : Coder × Bs :=
  let u := c.d.use r.key
  (⟨u.1, r.tick, r.cost⟩, numB (4 * (r.tick - c.tick) + r.verdict) ++ numB (zig (r.cost - c.cost)).1 ++
    (if u.2.2 then numB (1 + (u.2.1 : Int)) else numB 0 ++ numB r.key.size ++ bytesOf r.key))
def Coder.putE (c : Coder) (r : Rec) : Int := if r.right ≠ 0 then r.right else if r.tick < c.tick then 60 else 0

/-- record.key at an offset: the dictionary, the key, where it ends; or the fault. -/
def Dict.get (d : Dict) (b : Bs) (at_ : Nat) : Except Fault (Dict × ByteArray × Nat) :=
  match rdB (b.drop at_) with
  | .bad e => .error ⟨e, at_⟩
  | .ok n len =>
    if 0 < n then match d.touch (n - 1) with
      | none => .error ⟨64, at_⟩
      | some (d', key) => .ok (d', key, at_ + len)
    else
      match rdB (b.drop (at_ + len)) with
      | .bad e => .error ⟨e, at_ + len⟩
      | .ok k len2 =>
        if k < 1 ∨ 64 < k then .error ⟨61, at_ + len⟩
        else if b.length < at_ + len + len2 + k then .error ⟨10, at_ + len + len2⟩
        else
          let key : ByteArray := ⟨((b.drop (at_ + len + len2)).take k).toArray⟩
          if (d.find key).isSome then .error ⟨64, at_ + len + len2⟩
          else .ok ((d.use key).1, key, at_ + len + len2 + k)

/-- record.Get at an offset of the bytes. -/
def Coder.get (c : Coder) (b : Bs) (at_ : Nat) : Except Fault (Coder × Rec × Nat) :=
  match rdB (b.drop at_) with
  | .bad e => .error ⟨e, at_⟩
  | .ok n len =>
    if n % 4 = 3 then .error ⟨63, at_⟩
    else if tickOk (c.tick + (n / 4 : Nat)) = false then .error ⟨60, at_⟩
    else match rdB (b.drop (at_ + len)) with
      | .bad e => .error ⟨e, at_ + len⟩
      | .ok z len2 =>
        let cost := c.cost + (zag z).1
        if costOk cost = false then .error ⟨62, at_ + len⟩
        else match c.d.get b (at_ + len + len2) with
          | .error f => .error f
          | .ok (d', key, to) => .ok (⟨d', c.tick + (n / 4 : Nat), cost⟩, ⟨c.tick + (n / 4 : Nat), key, cost, (n % 4 : Nat)⟩, to)

/-! ### bucket, window -/
def clipN (most n : Int) : Int := min (max n 0) most
def decay (p : Pol) (owed ticks : Int) : Int := clipN maxNumber (clipN maxNumber owed - clipN 1099511627776 ticks * p.num)
def takeB (p : Pol) (owed cost : Int) : Int := clipN maxNumber (clipN maxNumber owed + cost * p.den)
def mayB (p : Pol) (owed cost : Int) : Bool := costOk cost && decide (clipN maxNumber owed + cost * p.den ≤ p.cap * p.den)

structure Sums where
  grid : Int
  l : List Int
  deriving DecidableEq, Inhabited

def gridOf (p : Pol) (tick : Int) : Int := clipN 1099511627776 tick / p.width
def freshW (p : Pol) (tick : Int) : Sums := ⟨gridOf p tick, List.replicate p.count.toNat 0⟩
def wrongN (n : Int) : Bool := decide (n < 0) || decide (n > 1099511627776)
def countsW (p : Pol) (s : Sums) : Sums :=
  if s.grid < 0 ∨ s.grid > gridOf p 1099511627776 ∨ (s.l.length : Int) ≠ p.count ∨ s.l.any wrongN then freshW p 0 else s
def moveW (p : Pol) (s : Sums) (tick : Int) : Sums :=
  let s := countsW p s
  let to := gridOf p tick
  if to ≤ s.grid then s
  else
    let gone := to - s.grid
    if gone < p.count then ⟨to, s.l.drop gone.toNat ++ List.replicate gone.toNat 0⟩ else freshW p tick
def totalW (s : Sums) : Int := if s.l.length > 32 then 0 else (s.l.map fun x => clipN 1099511627776 x).foldl (· + ·) 0
def mayW (p : Pol) (s : Sums) (cost : Int) : Bool := costOk cost && decide (totalW (countsW p s) + cost ≤ p.cap)
def takeW (p : Pol) (s : Sums) (cost : Int) : Sums :=
  let s := countsW p s
  let last := (p.count - 1).toNat
  ⟨s.grid, s.l.set last (min (s.l.getD last 0 + cost) 1099511627776)⟩

/-! ### ledger -/
inductive Debt where
  | level (n : Int)
  | sums (s : Sums)
  deriving DecidableEq, Inhabited

def Debt.later (p : Pol) (from_ to : Int) : Debt → Debt
  | .level n => .level (decay p n (to - from_))
  | .sums s => .sums (moveW p s to)
def Debt.may (p : Pol) (cost : Int) : Debt → Bool
  | .level n => mayB p n cost
  | .sums s => mayW p s cost
def Debt.take (p : Pol) (cost : Int) : Debt → Debt
  | .level n => .level (takeB p n cost)
  | .sums s => .sums (takeW p s cost)
def Debt.numbers : Debt → List Int
  | .level n => [n]
  | .sums s => s.l
def Debt.owes (d : Debt) : Bool := d.numbers.any fun n => n != 0

def keyLt (a b : ByteArray) : Bool := decide (a.data.toList < b.data.toList)

/-- What is owed, by key: in the order of keys. -/
abbrev Owed := List (ByteArray × Debt)
def Owed.get? : Owed → ByteArray → Option Debt
  | [], _ => none
  | (k, d) :: l, key => if k = key then some d else Owed.get? l key
def Owed.put : Owed → ByteArray → Debt → Owed
  | [], key, x => [(key, x)]
  | (k, d) :: l, key, x => if k = key then (key, x) :: l else if keyLt key k then (key, x) :: (k, d) :: l else (k, d) :: Owed.put l key x

structure Ledger where
  p : Pol
  tick : Int
  of : Owed
  deriving DecidableEq, Inhabited

def Ledger.new (p : Pol) : Ledger := ⟨p, 0, []⟩
def Ledger.moveE (l : Ledger) (tick : Int) : Int := if tick < l.tick ∨ tick > 1099511627776 then 60 else 0
def Ledger.move (l : Ledger) (tick : Int) : Ledger :=
  if l.moveE tick ≠ 0 then l else { l with tick := tick, of := (l.of.map fun e => (e.1, e.2.later l.p l.tick tick)).filter fun e => e.2.owes }
def Ledger.none_ (l : Ledger) : Debt := if l.p.kind = 1 then .level 0 else .sums (freshW l.p l.tick)
def Ledger.debt (l : Ledger) (key : ByteArray) : Debt := (l.of.get? key).getD l.none_
def Ledger.chargeE (key : ByteArray) (cost : Int) : Int := if keyOk key = false then 61 else if costOk cost = false then 62 else 0
def Ledger.charge (l : Ledger) (key : ByteArray) (cost : Int) : Ledger :=
  if Ledger.chargeE key cost ≠ 0 then l else { l with of := l.of.put key ((l.debt key).take l.p cost) }
def Ledger.bytes (l : Ledger) : Bs :=
  numB l.of.length ++ (l.of.map fun e => numB e.1.size ++ bytesOf e.1 ++ (e.2.numbers.map numB).flatten).flatten

/-! ### tape -/
structure Maker where
  p : Pol
  coder : Coder
  owed : Ledger
  link : Link
  segment : Bs
  records : Nat
  size : Nat
  deriving DecidableEq, Inhabited

def Maker.begun (p : Pol) : Maker := ⟨p, Coder.new p, Ledger.new p, { Link.first with sl := Seal.start.adds p.header }, [], 0, p.header.length⟩

structure Step where
  coder : Coder
  owed : Option Ledger
  link : Link
  piece : Bs
  check : Bs
  trailer : Bs
  ends : Bool
  deriving DecidableEq, Inhabited

def applyL (l : Ledger) (r : Rec) : Ledger :=
  let l := l.move r.tick
  if r.verdict = 1 then l.charge r.key r.cost else l

def Maker.adds (m : Maker) (r : Rec) (coder : Coder) (piece : Bs) : Step × Bool :=
  let k : Int := (m.records : Int) + 1
  let owed : Option Ledger := if 0 < m.p.every ∧ k % m.p.every = 0 then some (applyL m.owed r) else none
  let check : Bs := match owed with | some l => l.bytes | none => []
  let size := m.size + piece.length + check.length
  if size > 4194304 then (⟨coder, owed, m.link, piece, check, [], false⟩, false)
  else if k % m.p.seg = 0 then
    let link := (m.link.next (m.segment ++ piece ++ check)).1
    (⟨coder, owed, link, piece, check, link.enc, true⟩, decide (size + link.enc.length ≤ 4194304))
  else (⟨coder, owed, m.link, piece, check, [], false⟩, decide (size ≤ 4194304))

def Maker.done (m : Maker) (r : Rec) (s : Step) : Maker :=
  ⟨m.p, s.coder, s.owed.getD (applyL m.owed r), s.link, if s.ends then [] else m.segment ++ s.piece ++ s.check, m.records + 1,
    m.size + (s.piece.length + s.check.length + s.trailer.length)⟩

/-- tape.Put: the error; the writer behind it; the pieces. -/
def Maker.put (m : Maker) (r : Rec) : Except Int (Maker × List Bs) :=
  if m.coder.putE r ≠ 0 then .error (m.coder.putE r) else
  let cp := m.coder.put r
  let s := m.adds r cp.1 cp.2
  if s.2 = false ∨ m.records = 10000 then .error 3
  else .ok (m.done r s.1, [s.1.piece] ++ (if s.1.check = [] then [] else [s.1.check]) ++ (if s.1.ends then [s.1.trailer] else []))

def Maker.puts (m : Maker) (out : Bs) : Nat → List Rec → Except (Int × Int) Bs
  | _, [] => .ok out
  | i, r :: l => match m.put r with
    | .error e => .error (e, i)
    | .ok (m', pieces) => m'.puts (out ++ pieces.flatten) (i + 1) l

/-- tape.Encode: the tape; or the error and the record's number. -/
def encode (p : Pol) (l : List Rec) : Except (Int × Int) Bs := if p.ok = false then .error (40, 0) else (Maker.begun p).puts p.header 0 l

/-- do these bytes stand at an offset? -/
def standsAt (b : Bs) (at_ : Nat) (want : Bs) : Bool := want.isPrefixOf (b.drop at_)

inductive NextR where
  | none_
  | fault (f : Fault)
  | some (r : Rec) (m : Maker)
  deriving DecidableEq, Inhabited

def Maker.next (m : Maker) (b : Bs) : NextR :=
  if m.size = b.length then .none_
  else if m.records = 10000 then .fault ⟨2, m.size⟩
  else match m.coder.get b m.size with
    | .error f => .fault f
    | .ok (c, x, to) =>
      let s := (m.adds x c ((b.drop m.size).take (to - m.size))).1
      if standsAt b to s.check = false then .fault ⟨110, to⟩
      else if standsAt b (to + s.check.length) s.trailer = false then .fault ⟨111, (to + s.check.length : Nat)⟩
      else .some x (m.done x s)

def openR (b : Bs) : Except Fault Maker :=
  if b.length > 4194304 then .error ⟨2, -1⟩ else
  match Pol.read b with
  | .error f => .error f
  | .ok (p, _) => .ok (Maker.begun p)

/-- The records that Next tells, one behind another; where it stands then, and the fault that it tells there. -/
def Maker.reads (b : Bs) : Nat → Maker → List Rec × Maker × Option Fault
  | 0, m => ([], m, none)
  | k + 1, m => match m.next b with
    | .none_ => ([], m, none)
    | .fault f => ([], m, some f)
    | .some x m' => let r := Maker.reads b k m'; (x :: r.1, r.2)

def decode (b : Bs) : Except Fault (Pol × List Rec) :=
  match openR b with
  | .error f => .error f
  | .ok m => match Maker.reads b 10001 m with
    | (l, _, none) => .ok (m.p, l)
    | (_, _, some f) => .error f

/-- salvage.scanned -/
def scanned (b : Bs) : Except Fault (Pol × List Rec × Nat) :=
  match Pol.read b with
  | .error f => .error f
  | .ok (p, _) =>
    let r := Maker.reads (b.take 4194304) 10001 (Maker.begun p)
    .ok (p, r.1, r.2.1.size)

end Rv

/- The words that the walks share: what of memory reads as what; small lemmas. No conditions. -/
namespace Go.Proofs.YtcmndglhileeoaaGreat
open Go.RowKit

/-- A slice of bytes that reads as a list. -/
def RdB (w : World) (A : Option Addr) (xs : List UInt8) : Prop :=
  ∀ j c, xs[j]? = some c → ∃ ad, A = some ad ∧ w.cell? (ad.add j) = some (.int .u8 (c.toNat : Int))
theorem drop_cons_of {α : Type} {xs : List α} {i : Nat} {c : α} (h : xs[i]? = some c) : xs.drop i = c :: xs.drop (i + 1) := by
  obtain ⟨hi, rfl⟩ := List.getElem?_eq_some_iff.1 h
  exact List.drop_eq_getElem_cons hi
theorem some_at {α : Type} {xs : List α} {i : Nat} (h : i < xs.length) : ∃ c, xs[i]? = some c := ⟨_, List.getElem?_eq_getElem h⟩


/-! ### numbers -/
theorem mayN_yes {n : Int} (h0 : 0 ≤ n) (h1 : n ≤ 4611686018427387903) : Rv.mayN n = true := by
  unfold Rv.mayN Rv.maxNumber; rw [decide_eq_true h0, decide_eq_true h1]; rfl
theorem mayN_no {n : Int} (h : n < 0 ∨ 4611686018427387903 < n) : Rv.mayN n = false := by
  unfold Rv.mayN Rv.maxNumber
  rcases h with h | h
  · rw [decide_eq_false (show ¬ 0 ≤ n by omega)]; rfl
  · rw [decide_eq_false (show ¬ n ≤ 4611686018427387903 by omega), Bool.and_false]
theorem numB_no {n : Int} (h : n < 0 ∨ 4611686018427387903 < n) : Rv.numB n = [] := by unfold Rv.numB; rw [mayN_no h]; rfl
theorem numB_yes {n : Nat} (h : n ≤ 4611686018427387903) : Rv.numB n = Rv.numN n := by unfold Rv.numB; rw [mayN_yes (by omega) (by omega)]; simp

/-! ### bytes -/
def u8s (xs : List UInt8) : List Value := xs.map fun c => .int .u8 (c.toNat : Int)
theorem u8s_length (xs : List UInt8) : (u8s xs).length = xs.length := by simp [u8s]
theorem u8s_append (xs ys : List UInt8) : u8s (xs ++ ys) = u8s xs ++ u8s ys := by simp [u8s]
theorem u8s_one (xs : List UInt8) : ∀ u ∈ u8s xs, u.oneCell' = true := by
  intro u hu
  obtain ⟨c, _, rfl⟩ := List.mem_map.1 hu
  rfl
/-- Values that stand from an address on (none: there are none). -/
def RdV (w : World) (A : Option Addr) (vs : List Value) : Prop := ∀ j u, vs[j]? = some u → ∃ ad, A = some ad ∧ w.cell? (ad.add j) = some u
theorem RdB.toV {w : World} {A : Option Addr} {xs : List UInt8} (h : RdB w A xs) : RdV w A (u8s xs) := by
  intro j u hu
  simp only [u8s, List.getElem?_map, Option.map_eq_some_iff] at hu
  obtain ⟨c, hc, rfl⟩ := hu
  exact h j c hc
theorem RdV.toB {w : World} {A : Option Addr} {xs : List UInt8} (h : RdV w A (u8s xs)) : RdB w A xs := by
  intro j c hc
  exact h j _ (by simp [u8s, hc])
theorem RdB.nil (w : World) (A : Option Addr) : RdB w A [] := fun j c h => by simp at h
theorem RdV.nil (w : World) (A : Option Addr) : RdV w A [] := fun j c h => by simp at h

/-- A row of bytes of the call's own: nil and none, or a block from base on. -/
def OwnB (w : World) (base : Nat) (v : Value) (xs : List UInt8) : Prop := w.ownsRow base 5 1 v xs.length (u8s xs)
/-- A row of values of one cell each. -/
def OwnV (w : World) (base : Nat) (e : TypeId) (v : Value) (vs : List Value) : Prop := w.ownsRow base e 1 v vs.length vs

theorem OwnV.shape {w : World} {base : Nat} {e : TypeId} {v : Value} {vs : List Value} (h : OwnV w base e v vs) : ∃ A c, v = .slice A vs.length c ∧ vs.length ≤ c ∧ c ≤ maxLen ∧ RdV w A vs := by
  rcases h.2 with ⟨rfl, h0⟩ | ⟨g, cap, cur, rfl, hb, hg, hn, hm, _⟩
  · have : vs = [] := List.eq_nil_of_length_eq_zero h0
    subst this
    exact ⟨none, 0, rfl, Nat.le_refl _, by simp, RdV.nil _ _⟩
  · exact ⟨_, cap, rfl, hn, hm, fun j u hu => ⟨_, rfl, World.ownsRow.cells h (g := g) rfl j u hu⟩⟩
theorem OwnB.toV {w : World} {base : Nat} {v : Value} {xs : List UInt8} (h : OwnB w base v xs) : OwnV w base 5 v (u8s xs) := by
  unfold OwnV; rw [u8s_length]; exact h
theorem OwnV.toB {w : World} {base : Nat} {v : Value} {xs : List UInt8} (h : OwnV w base 5 v (u8s xs)) : OwnB w base v xs := by
  unfold OwnV at h; rw [u8s_length] at h; exact h
theorem OwnB.shape {w : World} {base : Nat} {v : Value} {xs : List UInt8} (h : OwnB w base v xs) : ∃ A c, v = .slice A xs.length c ∧ xs.length ≤ c ∧ c ≤ maxLen ∧ RdB w A xs := by
  obtain ⟨A, c, e, h1, h2, h3⟩ := h.toV.shape
  rw [u8s_length] at e h1
  exact ⟨A, c, e, h1, h2, h3.toB⟩
theorem OwnB.nil (w : World) (base : Nat) : OwnB w base (.slice none 0 0) [] := World.ownsRow_nil _ _ _ _
theorem OwnV.nil (w : World) (base : Nat) (e : TypeId) : OwnV w base e (.slice none 0 0) [] := World.ownsRow_nil _ _ _ _
theorem OwnV.mono {w : World} {base base' : Nat} {e : TypeId} {v : Value} {vs : List Value} (h : OwnV w base e v vs) (hb : base' ≤ base) : OwnV w base' e v vs := by
  refine ⟨h.1, ?_⟩
  rcases h.2 with hn | ⟨g, cap, cur, rfl, hg, r⟩
  · exact .inl hn
  · exact .inr ⟨g, cap, cur, rfl, Nat.le_trans hb hg, r⟩
theorem OwnB.mono {w : World} {base base' : Nat} {v : Value} {xs : List UInt8} (h : OwnB w base v xs) (hb : base' ≤ base) : OwnB w base' v xs := (h.toV.mono hb).toB
theorem OwnV.block {w : World} {base : Nat} {e : TypeId} {v : Value} {vs : List Value} (h : OwnV w base e v vs) : ∀ k, v.ownBlock = some k → base ≤ k ∧ k < w.heap.size := World.ownsRow.lt h
/-- It lives on, where its block does. -/
theorem OwnV.step {w w' : World} {base : Nat} {e : TypeId} {v : Value} {vs : List Value} (h : OwnV w base e v vs) (hk : ∀ k, v.ownBlock = some k → k < w.heap.size → w'.heap[k]? = w.heap[k]?) : OwnV w' base e v vs := by
  have hb := h.block
  refine ⟨h.1, ?_⟩
  rcases h.2 with hn | ⟨g, cap, cur, rfl, hg, hh, r⟩
  · exact .inl hn
  · exact .inr ⟨g, cap, cur, rfl, hg, by rw [hk g rfl (hb g rfl).2]; exact hh, r⟩
theorem OwnB.step {w w' : World} {base : Nat} {v : Value} {xs : List UInt8} (h : OwnB w base v xs) (hk : ∀ k, v.ownBlock = some k → k < w.heap.size → w'.heap[k]? = w.heap[k]?) : OwnB w' base v xs := (h.toV.step hk).toB
theorem OwnV.below {w w' : World} {base : Nat} {e : TypeId} {v : Value} {vs : List Value} (h : OwnV w base e v vs) (hb : Below w.heap.size w w') : OwnV w' base e v vs := h.step fun k _ hk => hb.block k hk
theorem OwnB.below {w w' : World} {base : Nat} {v : Value} {xs : List UInt8} (h : OwnB w base v xs) (hb : Below w.heap.size w w') : OwnB w' base v xs := h.step fun k _ hk => hb.block k hk
theorem OwnB.alloc {w : World} {base : Nat} {v : Value} {xs : List UInt8} (h : OwnB w base v xs) (o : Obj) : OwnB (w.alloc o) base v xs := World.ownsRow.alloc h o
theorem OwnV.alloc {w : World} {base : Nat} {e : TypeId} {v : Value} {vs : List Value} (h : OwnV w base e v vs) (o : Obj) : OwnV (w.alloc o) base e v vs := World.ownsRow.alloc h o

theorem cell_below {w w1 : World} (h : Below w.heap.size w w1) {a : Addr} {v : Value} (hc : w.cell? a = some v) : w1.cell? a = some v := (h.cell (World.block_lt_of_cell? w a hc)).trans hc
theorem RdV.below {w w' : World} {A : Option Addr} {vs : List Value} (h : RdV w A vs) (hb : Below w.heap.size w w') : RdV w' A vs := fun j u hu =>
  let ⟨ad, e, hc⟩ := h j u hu; ⟨ad, e, cell_below hb hc⟩
theorem RdB.below {w w' : World} {A : Option Addr} {xs : List UInt8} (h : RdB w A xs) (hb : Below w.heap.size w w') : RdB w' A xs := (h.toV.below hb).toB
theorem RdB.alloc {w : World} {A : Option Addr} {xs : List UInt8} (h : RdB w A xs) (o : Obj) : RdB (w.alloc o) A xs := h.below ((Below.refl _ _).alloc (Nat.le_refl _) o)
theorem RdV.alloc {w : World} {A : Option Addr} {vs : List Value} (h : RdV w A vs) (o : Obj) : RdV (w.alloc o) A vs := h.below ((Below.refl _ _).alloc (Nat.le_refl _) o)
theorem below_then {B : Nat} {w w1 w2 : World} (h : Below B w w1) (hB : B ≤ w1.heap.size) (k : Below w1.heap.size w1 w2) : Below B w w2 := h.trans (k.mono hB)
theorem below_trans {w w1 w2 : World} (h : Below w.heap.size w w1) (k : Below w1.heap.size w1 w2) : Below w.heap.size w w2 := below_then h h.size k

theorem grown_trans {w w1 w2 : World} {row : Option Nat} (h : w.grownBy w1 row) (k : w1.grownBy w2 row) : w.grownBy w2 row :=
  ⟨k.os.trans h.os, k.tape.trans h.tape, k.output.trans h.output, Nat.le_trans h.size k.size, fun i hi hr => (k.block i (Nat.lt_of_lt_of_le hi h.size) hr).trans (h.block i hi hr)⟩

theorem ret_int {k : IntKind} {a b : Int} (h : a = b) : Ending.returned (.int k a) = .returned (.int k b) := by rw [h]
theorem bcell {W w1 : World} (hb : Below W.heap.size W w1) : (∀ b o, b < W.heap.size → w1.cell? ⟨b, o, none⟩ = W.cell? ⟨b, o, none⟩) ∧ (∀ b o, b < W.heap.size → w1.frozen? ⟨b, o, none⟩ = W.frozen? ⟨b, o, none⟩) :=
  ⟨fun b o h => hb.cell (p := ⟨b, o, none⟩) h, fun b o h => hb.frozen (p := ⟨b, o, none⟩) h⟩

/-- A literal row. -/
theorem own_lit {W : World} {base : Nat} {e : TypeId} {cs : Array Value} {vs : List Value} {n : Nat} (hv : cs.toList = vs) (hn : n = vs.length) (hb : base ≤ W.heap.size) (hl : n ≤ 140737488355328) :
    OwnV (W.alloc (.cells cs e)) base e (.slice (some ⟨W.heap.size, 0, none⟩) n n) vs := by
  subst hn
  subst hv
  refine ⟨by simp, .inr ⟨W.heap.size, _, cs, rfl, hb, heap_alloc_new W _, Nat.le_refl _, by simp only [maxLen]; omega, by simp, by rw [Nat.mul_one]; exact List.take_length⟩⟩

theorem add_add (a : Addr) (m n : Nat) : (a.add m).add n = a.add (m + n) := by
  unfold Addr.add
  by_cases hm : m = 0
  · subst hm; simp
  · by_cases hn : n = 0
    · subst hn; simp
    · simp [hm, hn, Nat.add_assoc]

/-- What was there below n: its cells and marks, and that it is there, none of the new blocks. -/
theorem bcell2 {W w1 : World} (hb : Below W.heap.size W w1) (n : Nat) (hn : n ≤ W.heap.size) : (∀ b o, b < n → w1.cell? ⟨b, o, none⟩ = W.cell? ⟨b, o, none⟩) ∧ (∀ b o, b < n → w1.frozen? ⟨b, o, none⟩ = W.frozen? ⟨b, o, none⟩) ∧
    (∀ b, b < n → b < w1.heap.size) ∧ (∀ b, b < n → ¬ b = w1.heap.size) ∧ (∀ b, b < n → ¬ w1.heap.size = b) ∧ n ≤ w1.heap.size := by
  have := hb.size
  exact ⟨fun b o h => hb.cell (p := ⟨b, o, none⟩) (Nat.lt_of_lt_of_le h hn), fun b o h => hb.frozen (p := ⟨b, o, none⟩) (Nat.lt_of_lt_of_le h hn), fun b h => by omega, fun b h => by omega, fun b h => by omega, by omega⟩

theorem OwnV.grown {w w' : World} {base : Nat} {e : TypeId} {v : Value} {vs : List Value} {row : Option Nat} (h : OwnV w base e v vs) (hg : w.grownBy w' row) (hr : ∀ k, row = some k → k < base) : OwnV w' base e v vs :=
  h.step fun k hk hlt => hg.block k hlt (fun e => by have := hr k e.symm; have := (h.block k hk).1; omega)
theorem OwnB.grown {w w' : World} {base : Nat} {v : Value} {xs : List UInt8} {row : Option Nat} (h : OwnB w base v xs) (hg : w.grownBy w' row) (hr : ∀ k, row = some k → k < base) : OwnB w' base v xs := (h.toV.grown hg hr).toB
theorem OwnB.lt {w : World} {base : Nat} {v : Value} {xs : List UInt8} (h : OwnB w base v xs) : ∀ k, v.ownBlock = some k → k < w.heap.size := fun k hk => (h.toV.block k hk).2
theorem OwnB.nilcap {w : World} {base : Nat} {A : Option Addr} {n c : Nat} {xs : List UInt8} (h : OwnB w base (.slice A n c) xs) : A = none → c = 0 := by
  rintro rfl
  rcases h.2 with ⟨he, _⟩ | ⟨g, cap, cur, he, _⟩
  · injection he
  · injection he with h1; cases h1

/-! ### append -/
theorem info_parts' {P : Program} {e : TypeId} {z : Option Value} {s b : Nat} (h : (P.info? e).map (fun i => (i.zero, i.size, i.bytes)) = some (z, s, b)) : ∃ i, P.info? e = some i ∧ i.zero = z ∧ i.size = s ∧ i.bytes = b := by
  obtain ⟨i, hi, hz⟩ := Option.map_eq_some_iff.1 h
  simp only [Prod.mk.injEq] at hz
  exact ⟨i, hi, hz⟩

section
variable {P : Program} {ops : Array Oper} {rest : List Oper} {o : Oper} {a : Act} {Q : Exit → Act → World → Prop}
/-- append of what stands somewhere (nil, too) onto a row of one's own. -/
theorem app_src {w0 W : World} (base : Nat) (hgd : o.guard = none) (s x : Operand) (t e : TypeId) (z : Value) (bytes : Nat)
    (ho : o.op = .call { callee := .builtin .append, args := #[s, x], argTypes := #[t, t] })
    (ht : P.underlying t = some (.slice e)) (hinfo : (P.info? e).map (fun i => (i.zero, i.size, i.bytes)) = some (some z, 1, bytes)) (hz : z.cells.size = 1) (hb0 : 0 < bytes)
    (v : Value) (vs news : List Value) (A : Option Addr) (c : Nat) (hs : a.eval s = v) (hx : a.eval x = .slice A news.length c) (h1 : ∀ u ∈ news, u.oneCell' = true)
    (HO : OwnV W base e v vs) (HR : RdV W A news) (HB : Below base w0 W) (hbase : base ≤ W.heap.size) (hl : (vs.length + news.length) * bytes ≤ 140737488355328)
    (hnone : A = none → c = 0)
    (h : ∀ v1 w1, OwnV w1 base e v1 (vs ++ news) → Below base w0 w1 → W.grownBy w1 v.ownBlock → (v1 = .slice none 0 0 ↔ v = .slice none 0 0 ∧ news.length = 0) → wpList P ops Q rest (a.put o.dst v1) w1) :
    wpList P ops Q (o :: rest) a W := by
  obtain ⟨i0, hi, hz0, hz1, hz2⟩ := info_parts' hinfo
  have hlen : vs.length + news.length ≤ 140737488355328 := Nat.le_trans (Nat.le_mul_of_pos_right _ hb0) hl
  have own_base : ∀ k, v.ownBlock = some k → base ≤ k := fun k hk => (HO.block k hk).1
  cases A with
  | some ad =>
    refine wpList_append_own W hgd s x t ho base e i0 z 1 bytes ht hi hz0 hz1 hz2 hz (by omega) v vs.length vs hs HO ad news.length c news hx (by simp)
      (fun j u hu => by obtain ⟨ad', e', hc⟩ := HR j u hu; cases e'; exact hc) h1 (by simp only [maxLen]; omega) hl hbase ?_
    intro v1 w1 hown hg hn
    exact h v1 w1 (by unfold OwnV; rw [List.length_append]; exact hown) (HB.grown hg hbase own_base) hg hn
  | none =>
    have h0 : news = [] := by
      cases news with
      | nil => rfl
      | cons u r => obtain ⟨ad', e', _⟩ := HR 0 u rfl; cases e'
    subst h0
    obtain rfl := hnone rfl
    exact wpList_append_own_none hgd s x t ho base e i0 1 ht hi v vs.length vs hs HO hx
      (h v W (by rw [List.append_nil]; exact HO) HB ⟨rfl, rfl, rfl, Nat.le_refl _, fun _ _ _ => rfl⟩ (by simp))

/-- append of one value, which lies in a new block of its own. -/
theorem app_one {w0 W : World} (base : Nat) (hgd : o.guard = none) (s x : Operand) (t e : TypeId) (z : Value) (bytes : Nat)
    (ho : o.op = .call { callee := .builtin .append, args := #[s, x], argTypes := #[t, t] })
    (ht : P.underlying t = some (.slice e)) (hinfo : (P.info? e).map (fun i => (i.zero, i.size, i.bytes)) = some (some z, 1, bytes)) (hz : z.cells.size = 1) (hb0 : 0 < bytes)
    (v : Value) (vs : List Value) (y : Value) (hs : a.eval s = v) (hx : a.eval x = .slice (some ⟨W.heap.size, 0, none⟩) 1 1) (h1 : y.oneCell' = true)
    (HO : OwnV W base e v vs) (HB : Below base w0 W) (hbase : base ≤ W.heap.size) (hl : (vs.length + 1) * bytes ≤ 140737488355328)
    (h : ∀ v1 w1, OwnV w1 base e v1 (vs ++ [y]) → Below base w0 w1 → W.grownBy w1 v.ownBlock → wpList P ops Q rest (a.put o.dst v1) w1) :
    wpList P ops Q (o :: rest) a (W.alloc (.cells #[y] e)) := by
  refine app_src (w0 := w0) base hgd s x t e z bytes ho ht hinfo hz hb0 v vs [y] (some ⟨W.heap.size, 0, none⟩) 1 hs hx (by simpa using h1) (HO.alloc _) ?_ (HB.alloc hbase _) (by simp; omega) (by simpa using hl) (by simp) ?_
  · intro j u hu
    refine ⟨_, rfl, ?_⟩
    have hj : j = 0 := by have := (List.getElem?_eq_some_iff.1 hu).1; simp at this; exact this
    subst hj
    have hu' : y = u := by simpa using hu
    subst hu'
    show (W.alloc (.cells #[y] e)).cell? ⟨W.heap.size, 0, none⟩ = some y
    have := heap_alloc_new W (.cells #[y] e)
    simp only [World.cell?, this]
    rfl
  · intro v1 w1 h2 h3 h4 _
    exact h v1 w1 h2 h3 (grown_trans (World.grownBy_alloc W _ _) h4)

theorem appb_src {w0 W : World} (base : Nat) (hgd : o.guard = none) (s x : Operand) (t : TypeId) 
    (ho : o.op = .call { callee := .builtin .append, args := #[s, x], argTypes := #[t, t] })
    (ht : P.underlying t = some (.slice 5)) (hinfo : (P.info? 5).map (fun i => (i.zero, i.size, i.bytes)) = some (some (.int .u8 0), 1, 1))
    (v : Value) (xs news : List UInt8) (A : Option Addr) (c : Nat) (hs : a.eval s = v) (hx : a.eval x = .slice A news.length c)
    (HO : OwnB W base v xs) (HR : RdB W A news) (HB : Below base w0 W) (hbase : base ≤ W.heap.size) (hl : xs.length + news.length ≤ 140737488355328)
    (hnone : A = none → c = 0)
    (h : ∀ v1 w1, OwnB w1 base v1 (xs ++ news) → Below base w0 w1 → W.grownBy w1 v.ownBlock → (v1 = .slice none 0 0 ↔ v = .slice none 0 0 ∧ news.length = 0) → wpList P ops Q rest (a.put o.dst v1) w1) :
    wpList P ops Q (o :: rest) a W := by
  refine app_src (w0 := w0) base hgd s x t 5 (.int .u8 0) 1 ho ht hinfo rfl (by omega) v (u8s xs) (u8s news) A c hs (by rw [u8s_length]; exact hx) (u8s_one _) HO.toV HR.toV HB hbase
    (by rw [u8s_length, u8s_length]; omega) hnone ?_
  intro v1 w1 h2 h3 h4 h5
  rw [← u8s_append] at h2
  rw [u8s_length] at h5
  exact h v1 w1 h2.toB h3 h4 h5

theorem appb_one {w0 W : World} (base : Nat) (hgd : o.guard = none) (s x : Operand) (t : TypeId)
    (ho : o.op = .call { callee := .builtin .append, args := #[s, x], argTypes := #[t, t] })
    (ht : P.underlying t = some (.slice 5)) (hinfo : (P.info? 5).map (fun i => (i.zero, i.size, i.bytes)) = some (some (.int .u8 0), 1, 1))
    (v : Value) (xs : List UInt8) (y : Int) (c : UInt8) (hy : y = (c.toNat : Int)) (hs : a.eval s = v) (hx : a.eval x = .slice (some ⟨W.heap.size, 0, none⟩) 1 1)
    (HO : OwnB W base v xs) (HB : Below base w0 W) (hbase : base ≤ W.heap.size) (hl : xs.length + 1 ≤ 140737488355328)
    (h : ∀ v1 w1, OwnB w1 base v1 (xs ++ [c]) → Below base w0 w1 → W.grownBy w1 v.ownBlock → wpList P ops Q rest (a.put o.dst v1) w1) :
    wpList P ops Q (o :: rest) a (W.alloc (.cells #[.int .u8 y] 5)) := by
  subst hy
  refine app_one (w0 := w0) base hgd s x t 5 (.int .u8 0) 1 ho ht hinfo rfl (by omega) v (u8s xs) (.int .u8 (c.toNat : Int)) hs hx rfl HO.toV HB hbase (by rw [u8s_length]; omega) ?_
  intro v1 w1 h2 h3 h4
  rw [show u8s xs ++ [Value.int .u8 (c.toNat : Int)] = u8s (xs ++ [c]) by simp [u8s]] at h2
  exact h v1 w1 h2.toB h3 h4

/-- make([]byte, 0, n). -/
theorem makeb_cap {w0 W : World} (base : Nat) (hgd : o.guard = none) (l c : Operand) (t : TypeId) (hop : o.op = Op.makeSlice t l c)
    (ht : P.underlying t = some (.slice 5)) (hinfo : (P.info? 5).map (fun i => (i.zero, i.size, i.bytes)) = some (some (.int .u8 0), 1, 1))
    (C : Int) (n : Nat) (hl : a.eval l = .int .i64 0) (hc : a.eval c = .int .i64 C) (hC : C = (n : Int)) (hn : n ≤ 140737488355328) (HB : Below base w0 W) (hbase : base ≤ W.heap.size)
    (h : ∀ v1 w1, OwnB w1 base v1 [] → Below base w0 w1 → W.grownBy w1 none → wpList P ops Q rest (a.put o.dst v1) w1) : wpList P ops Q (o :: rest) a W := by
  obtain ⟨i0, hi, hz0, hz1, hz2⟩ := info_parts' hinfo
  refine wpList_make_own W hgd l c t hop base 5 i0 (.int .u8 0) 1 ht hi hz0 hz1 .i64 .i64 C n hl hc hC (by rw [hz2]; omega) (by simp only [maxLen]; omega) hbase ?_
  intro w1 h1 h2
  exact h _ w1 h1 (HB.grown h2 hbase (by simp)) h2
end
end Go.Proofs.YtcmndglhileeoaaGreat

/- Maps keyed by strings, by what a look-up finds: look-up, store, delete, length, made. No program. -/
set_option linter.unusedSimpArgs false
set_option linter.unusedVariables false
namespace Rv
open Go Go.ChangeMaps Go.MapKept

/-- What stands under a key. -/
def findE : List MapEntry → ByteArray → Option Value
  | [], _ => none
  | e :: r, k => match e.key with
    | .string s => if k = s then some e.val else findE r k
    | _ => findE r k

structure SMap (es : Array MapEntry) (clock : Nat) : Prop where
  keys : ∀ e ∈ es.toList, ∃ s, e.key = .string s
  nodup : es.toList.Pairwise (fun a b => a.key ≠ b.key)
  born : es.toList.Pairwise (fun a b => a.born < b.born)
  low : ∀ e ∈ es.toList, e.born < clock

theorem ba_eq (a b : ByteArray) : (a == b) = decide (a = b) := by
  have h : (a == b) = (a.data == b.data) := rfl
  rw [h]
  by_cases e : a = b
  · subst e; simp
  · rw [decide_eq_false e, beq_eq_false_iff_ne]
    exact fun h => e (ByteArray.ext h)

theorem ba_lawful : LawfulBEq ByteArray :=
  { rfl := fun {a} => by rw [ba_eq]; simp
    eq_of_beq := fun {a b} h => by rw [ba_eq] at h; exact of_decide_eq_true h }

theorem isKey_string (k : ByteArray) : IsKey .string (.string k) := by simp [IsKey]

theorem findNow_at (k : ByteArray) : ∀ (l : List MapEntry) (i : Nat), (∀ e ∈ l, ∃ s, e.key = .string s) →
    (Instr.findNow .string (.string k) l i = some none ∧ findE l k = none ∧ ∀ e ∈ l, e.key ≠ .string k) ∨
    ∃ j e, l[j]? = some e ∧ e.key = .string k ∧ Instr.findNow .string (.string k) l i = some (some (i + j, e.val)) ∧ findE l k = some e.val
  | [], i, _ => .inl ⟨rfl, rfl, fun e he => by cases he⟩
  | e :: r, i, h => by
    obtain ⟨s, hs⟩ := h e List.mem_cons_self
    by_cases hk : k = s
    · refine .inr ⟨0, e, rfl, by rw [hs, hk], ?_, ?_⟩
      · simp [Instr.findNow, hs, Instr.sameNow, ba_eq, hk]
      · simp [findE, hs, hk]
    · have e1 : Instr.findNow .string (.string k) (e :: r) i = Instr.findNow .string (.string k) r (i + 1) := by
        have : (k == s) = false := by rw [ba_eq]; exact decide_eq_false hk
        simp [Instr.findNow, hs, Instr.sameNow, this]
      have e2 : findE (e :: r) k = findE r k := by simp [findE, hs, hk]
      rcases findNow_at k r (i + 1) (fun x hx => h x (List.mem_cons_of_mem _ hx)) with ⟨h1, h2, h3⟩ | ⟨j, x, h1, h2, h3, h4⟩
      · refine .inl ⟨by rw [e1]; exact h1, by rw [e2]; exact h2, fun x hx => ?_⟩
        rcases List.mem_cons.1 hx with rfl | hx
        · rw [hs]; intro he; injection he with he; exact hk he.symm
        · exact h3 x hx
      · exact .inr ⟨j + 1, x, by simpa using h1, h2, by rw [e1, h3, show i + 1 + j = i + (j + 1) by omega], by rw [e2]; exact h4⟩

theorem findE_of {l : List MapEntry} (hn : l.Pairwise (fun a b => a.key ≠ b.key)) {e : MapEntry} (he : e ∈ l) {k : ByteArray} (hk : e.key = .string k) : findE l k = some e.val := by
  induction l with
  | nil => cases he
  | cons x r ih =>
    obtain ⟨h1, h2⟩ := List.pairwise_cons.1 hn
    rcases List.mem_cons.1 he with rfl | he
    · simp [findE, hk]
    · have := h1 e he
      unfold findE
      split
      · rename_i s hs
        by_cases h : k = s
        · subst h; exact absurd (hs.trans hk.symm) this
        · rw [if_neg h]; exact ih h2 he
      · exact ih h2 he

theorem findE_none {l : List MapEntry} {k : ByteArray} (h : ∀ e ∈ l, e.key ≠ .string k) : findE l k = none := by
  induction l with
  | nil => rfl
  | cons x r ih =>
    have h1 := h x List.mem_cons_self
    have h2 := ih (fun e he => h e (List.mem_cons_of_mem _ he))
    unfold findE
    split
    · rename_i s hs
      rw [if_neg (fun e => h1 (by rw [hs, e]))]; exact h2
    · exact h2

theorem findE_some {l : List MapEntry} {k : ByteArray} {v : Value} (h : findE l k = some v) : ∃ e ∈ l, e.key = .string k ∧ e.val = v := by
  induction l with
  | nil => cases h
  | cons x r ih =>
    unfold findE at h
    split at h
    · rename_i s hs
      by_cases hk : k = s
      · rw [if_pos hk] at h
        exact ⟨x, List.mem_cons_self, by rw [hs, hk], Option.some.inj h⟩
      · rw [if_neg hk] at h
        obtain ⟨e, he, h1⟩ := ih h
        exact ⟨e, List.mem_cons_of_mem _ he, h1⟩
    · obtain ⟨e, he, h1⟩ := ih h
      exact ⟨e, List.mem_cons_of_mem _ he, h1⟩

theorem findE_append {l l' : List MapEntry} {k : ByteArray} : findE (l ++ l') k = (findE l k).or (findE l' k) := by
  induction l with
  | nil => simp [findE]
  | cons x r ih =>
    simp only [List.cons_append]
    cases hx : x.key with
    | string s =>
      by_cases h : k = s
      · simp [findE, hx, h]
      · simp [findE, hx, h, ih]
    | _ => simp [findE, hx, ih]

def setB (w : World) (b : Nat) (o : Obj) : World := { w with heap := w.heap.setIfInBounds b o }
theorem setB_same {w : World} {b : Nat} {o o' : Obj} (hb : w.heap[b]? = some o) : (setB w b o').heap[b]? = some o' := (heap_set hb).1
theorem setB_other {w : World} {b k : Nat} {o' : Obj} (hne : k ≠ b) : (setB w b o').heap[k]? = w.heap[k]? := by
  show (w.heap.setIfInBounds b o')[k]? = _
  simp [Ne.symm hne]
theorem setB_size (w : World) (b : Nat) (o' : Obj) : (setB w b o').heap.size = w.heap.size := by simp [setB]

section
variable {P : Program} {w : World} {t k e : TypeId} {b : Nat} {es : Array MapEntry} {clock : Nat}

theorem run_look (ht : P.underlying t = some (.map k e)) (hk : P.underlying k = some .string) (hb : w.heap[b]? = some (.map es clock)) (S : SMap es clock) (key : ByteArray) {z : Value}
    (hz : ∀ w, (zeroValue e).run P w = .ok z w) (ok : Bool) :
    (Instr.lookup t (.map (some b)) (.string key) ok).run P w = .ok (if ok then .tuple #[(findE es.toList key).getD z, .bool (findE es.toList key).isSome] else (findE es.toList key).getD z) w := by
  have hc := run_checkKey (P := P) (w := w) hk (isKey_string key) es.isEmpty 9999
  rcases findNow_at key es.toList 0 S.keys with ⟨h1, h2, _⟩ | ⟨j, x, _, _, h3, h4⟩
  · have hf := run_findKey (P := P) (w := w) hk h1
    rw [h2]
    simp [Instr.lookup, run_underlying ht, run_getObj_map hb, hc, hf, hz, Result.andThen]
  · have hf := run_findKey (P := P) (w := w) hk h3
    rw [h4]
    simp [Instr.lookup, run_underlying ht, run_getObj_map hb, hc, hf, Result.andThen]

theorem run_put (ht : P.underlying t = some (.map k e)) (hk : P.underlying k = some .string) (hb : w.heap[b]? = some (.map es clock)) (S : SMap es clock) (key : ByteArray) (v : Value) :
    ∃ es' clock', (Instr.mapUpdate t (.map (some b)) (.string key) v).run P w = .ok () (setB w b (.map es' clock')) ∧ SMap es' clock' ∧
      (∀ k', findE es'.toList k' = if k' = key then some v else findE es.toList k') ∧ es'.size = (if (findE es.toList key).isSome then es.size else es.size + 1) := by
  have hc := run_checkKey (P := P) (w := w) hk (isKey_string key) false 9999
  rcases findNow_at key es.toList 0 S.keys with ⟨h1, h2, h3⟩ | ⟨j, x, h5, h6, h3, h4⟩
  · have hf := run_findKey (P := P) (w := w) hk h1
    refine ⟨es.push ⟨.string key, v, clock⟩, clock + 1, ?_, ⟨?_, ?_, ?_, ?_⟩, ?_, by rw [h2]; simp⟩
    · simp [Instr.mapUpdate, run_underlying ht, run_getObj_map hb, hc, hf, run_setObj_map _ hb, Result.andThen, setB]
    · intro x hx
      rw [Array.toList_push, List.mem_append] at hx
      rcases hx with hx | hx
      · exact S.keys x hx
      · rw [List.mem_singleton.1 hx]; exact ⟨key, rfl⟩
    · rw [Array.toList_push, List.pairwise_append]
      refine ⟨S.nodup, List.pairwise_singleton _ _, fun x hx y hy => ?_⟩
      rw [List.mem_singleton.1 hy]
      exact h3 x hx
    · rw [Array.toList_push, List.pairwise_append]
      refine ⟨S.born, List.pairwise_singleton _ _, fun x hx y hy => ?_⟩
      rw [List.mem_singleton.1 hy]
      exact S.low x hx
    · intro x hx
      rw [Array.toList_push, List.mem_append] at hx
      rcases hx with hx | hx
      · have := S.low x hx; omega
      · rw [List.mem_singleton.1 hx]; show clock < clock + 1; omega
    · intro k'
      rw [Array.toList_push, findE_append]
      by_cases h : k' = key
      · subst h
        rw [h2, if_pos rfl]
        simp [findE]
      · rw [if_neg h]
        simp [findE, h]
  · have hf := run_findKey (P := P) (w := w) hk h3
    rw [Nat.zero_add] at hf
    have hx : es[j]? = some x := by rw [← Array.getElem?_toList]; exact h5
    have hj : j < es.size := (Array.getElem?_eq_some_iff.1 hx).1
    have hxe : es[j] = x := (Array.getElem?_eq_some_iff.1 hx).2
    have hkey : x.key = .string key := h6
    have hmod : (es.modify j fun e => { e with key := .string key, val := v }) = es.set j ⟨.string key, v, x.born⟩ hj := by
      apply Array.ext'
      apply List.ext_getElem?
      intro i
      rw [Array.getElem?_toList, Array.getElem?_toList, Array.getElem?_modify, Array.getElem?_set]
      by_cases h : j = i
      · subst h; simp [hj, hxe]
      · simp [h]
    have htl : (es.set j ⟨.string key, v, x.born⟩ hj).toList = es.toList.set j ⟨.string key, v, x.born⟩ := by simp
    have mem_set : ∀ y, y ∈ es.toList.set j ⟨.string key, v, x.born⟩ → y = ⟨.string key, v, x.born⟩ ∨ y ∈ es.toList := fun y hy => by
      rcases List.mem_or_eq_of_mem_set hy with h | h
      · exact .inr h
      · exact .inl h
    have pw : ∀ {R : MapEntry → MapEntry → Prop} {l : List MapEntry} {j : Nat} {x y : MapEntry}, l[j]? = some x → l.Pairwise R → (∀ a, R a x → R a y) → (∀ a, R x a → R y a) → (l.set j y).Pairwise R := by
      intro R l
      induction l with
      | nil => intro j x y h; simp at h
      | cons a r ih =>
        intro j x y h hp h1 h2
        obtain ⟨p1, p2⟩ := List.pairwise_cons.1 hp
        cases j with
        | zero =>
          simp at h
          subst h
          simp only [List.set_cons_zero]
          exact List.pairwise_cons.2 ⟨fun z hz => h2 z (p1 z hz), p2⟩
        | succ j =>
          simp only [List.set_cons_succ]
          simp at h
          refine List.pairwise_cons.2 ⟨fun z hz => ?_, ih h p2 h1 h2⟩
          rcases List.mem_or_eq_of_mem_set hz with h3 | rfl
          · exact p1 z h3
          · exact h1 a (p1 x (List.mem_of_getElem? h))
    refine ⟨es.set j ⟨.string key, v, x.born⟩ hj, clock, ?_, ⟨?_, ?_, ?_, ?_⟩, ?_, by rw [h4]; simp⟩
    · have hst : (Instr.keyThatStays (.string key) (.string key)).run P w = .ok (.string key) w := by simp [Instr.keyThatStays, Instr.sameBits, ba_eq]
      simp only [Instr.mapUpdate, Sem.run_bind, run_underlying ht, Result.andThen_ok, run_getObj_map hb, hc, hf, hx, Option.map_some, Option.getD_some, hkey, hst, hmod, run_setObj_map _ hb]
      rfl
    · intro y hy
      rw [htl] at hy
      rcases mem_set y hy with rfl | h
      · exact ⟨key, rfl⟩
      · exact S.keys y h
    · rw [htl]
      exact pw h5 S.nodup (fun a h => by rw [hkey] at h; exact h) (fun a h => by rw [hkey] at h; exact h)
    · rw [htl]
      exact pw h5 S.born (fun a h => h) (fun a h => h)
    · intro y hy
      rw [htl] at hy
      rcases mem_set y hy with rfl | h
      · exact S.low x (List.mem_of_getElem? h5)
      · exact S.low y h
    · intro k'
      rw [htl]
      have hnd : (es.toList.set j ⟨.string key, v, x.born⟩).Pairwise (fun a b => a.key ≠ b.key) := pw h5 S.nodup (fun a h => by rw [hkey] at h; exact h) (fun a h => by rw [hkey] at h; exact h)
      have hjl : j < es.toList.length := by simpa using hj
      by_cases h : k' = key
      · subst h
        rw [if_pos rfl]
        exact findE_of hnd (List.mem_set hjl _) rfl
      · rw [if_neg h]
        cases hf' : findE es.toList k' with
        | none =>
          refine findE_none (fun y hy hyk => ?_)
          rcases mem_set y hy with rfl | hy
          · injection hyk with hyk; exact h hyk.symm
          · rw [findE_of S.nodup hy hyk] at hf'; cases hf'
        | some u =>
          obtain ⟨y, hy, h8, h9⟩ := findE_some hf'
          have : y ∈ es.toList.set j ⟨.string key, v, x.born⟩ := by
            obtain ⟨i, hi⟩ := List.getElem?_of_mem hy
            have hne : j ≠ i := by
              rintro rfl
              rw [h5] at hi
              injection hi with hi
              subst hi
              rw [hkey] at h8
              injection h8 with h8
              exact h h8.symm
            refine List.mem_of_getElem? (i := i) ?_
            rw [List.getElem?_set_ne hne]; exact hi
          rw [findE_of hnd this h8, h9]

theorem run_del {ty : TypeId} (ht : P.underlying t = some (.map k e)) (hk : P.underlying k = some .string) (hb : w.heap[b]? = some (.map es clock)) (S : SMap es clock) (key : ByteArray) :
    ∃ es', (Builtin.delete_ #[t, k] ty #[.map (some b), .string key]).run P w = .ok (.tuple #[]) (setB w b (.map es' clock)) ∧ SMap es' clock ∧
      (∀ k', findE es'.toList k' = if k' = key then none else findE es.toList k') ∧ es'.size = (if (findE es.toList key).isSome then es.size - 1 else es.size) ∧ (∀ x ∈ es'.toList, x ∈ es.toList) := by
  have hc := run_checkKey (P := P) (w := w) hk (isKey_string key) es.isEmpty 9999
  rcases findNow_at key es.toList 0 S.keys with ⟨h1, h2, h3⟩ | ⟨j, x, h5, h6, h3, h4⟩
  · have hf := run_findKey (P := P) (w := w) hk h1
    refine ⟨es, ?_, S, fun k' => ?_, by rw [h2]; rfl, fun x h => h⟩
    · simp [Builtin.delete_, run_underlying ht, run_getObj_map hb, hc, hf, run_setObj_map _ hb, Result.andThen, setB]
    · by_cases h : k' = key
      · subst h; rw [if_pos rfl, h2]
      · rw [if_neg h]
  · have hf := run_findKey (P := P) (w := w) hk h3
    rw [Nat.zero_add] at hf
    have hx : es[j]? = some x := by rw [← Array.getElem?_toList]; exact h5
    have hj : j < es.size := (Array.getElem?_eq_some_iff.1 hx).1
    have htl : (es.eraseIdxIfInBounds j).toList = es.toList.eraseIdx j := by
      unfold Array.eraseIdxIfInBounds
      rw [dif_pos hj]
      simp
    have sub : (es.toList.eraseIdx j).Sublist es.toList := List.eraseIdx_sublist _ _
    refine ⟨es.eraseIdxIfInBounds j, ?_, ⟨?_, ?_, ?_, ?_⟩, ?_, ?_, ?_⟩
    · simp [Builtin.delete_, run_underlying ht, run_getObj_map hb, hc, hf, run_setObj_map _ hb, Result.andThen, setB]
    · intro y hy; rw [htl] at hy; exact S.keys y (sub.subset hy)
    · rw [htl]; exact S.nodup.sublist sub
    · rw [htl]; exact S.born.sublist sub
    · intro y hy; rw [htl] at hy; exact S.low y (sub.subset hy)
    · intro k'
      rw [htl]
      have hnd := S.nodup.sublist sub
      by_cases h : k' = key
      · subst h
        rw [if_pos rfl]
        refine findE_none (fun y hy hyk => ?_)
        obtain ⟨i, hi⟩ := List.getElem?_of_mem hy
        rw [List.getElem?_eraseIdx] at hi
        have pwi := List.pairwise_iff_getElem.1 S.nodup
        obtain ⟨hjl, hjx⟩ := List.getElem?_eq_some_iff.1 h5
        by_cases hij : i < j
        · rw [if_pos hij] at hi
          obtain ⟨hil, hiy⟩ := List.getElem?_eq_some_iff.1 hi
          exact pwi i j hil hjl hij (by rw [hiy, hjx, hyk, h6])
        · rw [if_neg hij] at hi
          obtain ⟨hil, hiy⟩ := List.getElem?_eq_some_iff.1 hi
          exact pwi j (i + 1) hjl hil (by omega) (by rw [hiy, hjx, hyk, h6])
      · rw [if_neg h]
        cases hf' : findE es.toList k' with
        | none =>
          refine findE_none (fun y hy hyk => ?_)
          rw [findE_of S.nodup (sub.subset hy) hyk] at hf'; cases hf'
        | some u =>
          obtain ⟨y, hy, h8, h9⟩ := findE_some hf'
          have : y ∈ es.toList.eraseIdx j := by
            obtain ⟨i, hi⟩ := List.getElem?_of_mem hy
            have hne : i ≠ j := by
              rintro rfl
              rw [h5] at hi
              injection hi with hi
              subst hi
              rw [h6] at h8
              injection h8 with h8
              exact h h8.symm
            rw [List.mem_eraseIdx_iff_getElem?]
            exact ⟨i, hne, hi⟩
          rw [findE_of hnd this h8, h9]
    · rw [h4]
      simp only [Option.isSome_some, if_true]
      rw [← Array.length_toList, htl, List.length_eraseIdx, if_pos (by simpa using hj)]
      simp
    · intro y hy; rw [htl] at hy; exact sub.subset hy
end

theorem smap_nil : SMap #[] 0 := ⟨by simp, by simp, by simp, by simp⟩

end Rv

/- What a call may have written: Kept. Whole blocks behind stores. No program beyond its name. -/
set_option linter.unusedSimpArgs false
set_option linter.unusedVariables false
namespace Go.Proofs.YtcmndglhileeoaaGreat
open Go.RowKit

/-- Of what there was only the blocks of S may have turned. -/
structure Kept (S : Nat → Prop) (w w' : World) : Prop where
  os : w'.os = w.os
  tape : w'.tape = w.tape
  output : w'.output = w.output
  size : w.heap.size ≤ w'.heap.size
  block : ∀ k, k < w.heap.size → ¬ S k → w'.heap[k]? = w.heap[k]?

theorem Kept.refl (S : Nat → Prop) (w : World) : Kept S w w := ⟨rfl, rfl, rfl, Nat.le_refl _, fun _ _ _ => rfl⟩
theorem Kept.trans {S S' : Nat → Prop} {a b c : World} (h : Kept S a b) (k : Kept S' b c) (hs : ∀ i, i < a.heap.size → S' i → S i) : Kept S a c :=
  ⟨k.os.trans h.os, k.tape.trans h.tape, k.output.trans h.output, Nat.le_trans h.size k.size, fun i hi hn => (k.block i (Nat.lt_of_lt_of_le hi h.size) (fun e => hn (hs i hi e))).trans (h.block i hi hn)⟩
theorem Kept.mono {S S' : Nat → Prop} {a b : World} (h : Kept S a b) (hs : ∀ i, i < a.heap.size → S i → S' i) : Kept S' a b :=
  ⟨h.os, h.tape, h.output, h.size, fun i hi hn => h.block i hi (fun e => hn (hs i hi e))⟩
theorem Kept.alloc {S : Nat → Prop} {a b : World} (h : Kept S a b) (o : Obj) : Kept S a (b.alloc o) :=
  ⟨h.os, h.tape, h.output, by simp; have := h.size; omega, fun i hi hn => (Below.heap_alloc b o i (Nat.lt_of_lt_of_le hi h.size)).trans (h.block i hi hn)⟩
theorem Kept.setCell {S : Nat → Prop} {a b : World} (h : Kept S a b) (p : Addr) (v : Value) (hp : S p.block ∨ a.heap.size ≤ p.block) : Kept S a (b.setCell p v) :=
  ⟨h.os, h.tape, h.output, by simp [World.setCell]; exact h.size, fun i hi hn => (Below.heap_setCell b p v i (fun e => by subst e; rcases hp with hp | hp; exact hn hp; omega)).trans (h.block i hi hn)⟩
theorem Kept.setB {S : Nat → Prop} {a b : World} (h : Kept S a b) (g : Nat) (o : Obj) (hp : S g ∨ a.heap.size ≤ g) : Kept S a (Rv.setB b g o) :=
  ⟨h.os, h.tape, h.output, by simp [Rv.setB_size]; exact h.size, fun i hi hn => (Rv.setB_other (fun e => by subst e; rcases hp with hp | hp; exact hn hp; omega)).trans (h.block i hi hn)⟩
theorem Kept.of_below {S : Nat → Prop} {a b : World} (h : Below a.heap.size a b) : Kept S a b := ⟨h.os, h.tape, h.output, h.size, fun i hi _ => h.block i hi⟩
theorem Kept.of_grown {S : Nat → Prop} {a b : World} {row : Option Nat} (h : a.grownBy b row) (hs : ∀ k, row = some k → k < a.heap.size → S k) : Kept S a b :=
  ⟨h.os, h.tape, h.output, h.size, fun i hi hn => h.block i hi (fun e => hn (hs i e.symm hi))⟩
theorem Kept.below {S : Nat → Prop} {a b : World} {B : Nat} (h : Kept S a b) (hB : B ≤ a.heap.size) (hs : ∀ k, k < B → ¬ S k) : Below B a b :=
  ⟨h.os, h.tape, h.output, h.size, fun i hi => h.block i (Nat.lt_of_lt_of_le hi hB) (hs i hi)⟩
theorem Kept.grown {a b : World} {g : Nat} {S : Nat → Prop} (h : Kept S a b) (hs : ∀ k, S k → k = g) : a.grownBy b (some g) :=
  ⟨h.os, h.tape, h.output, h.size, fun i hi hn => h.block i hi (fun e => hn (by rw [hs i e]))⟩
theorem Kept.cell {S : Nat → Prop} {a b : World} (h : Kept S a b) {p : Addr} (hp : p.block < a.heap.size) (hs : ¬ S p.block) : b.cell? p = a.cell? p := World.cell?_of_block (w := a) (h.block p.block hp hs)
theorem Kept.frozen {S : Nat → Prop} {a b : World} (h : Kept S a b) {p : Addr} (hp : p.block < a.heap.size) (hs : ¬ S p.block) : b.frozen? p = a.frozen? p := World.frozen?_of_block (w := a) (h.block p.block hp hs)
theorem Kept.cell' {S : Nat → Prop} {a b : World} (h : Kept S a b) {p : Addr} {v : Value} (hc : a.cell? p = some v) (hs : ¬ S p.block) : b.cell? p = some v :=
  (h.cell (World.block_lt_of_cell? a p hc) hs).trans hc
theorem OwnV.kept {S : Nat → Prop} {a b : World} {base : Nat} {e : TypeId} {v : Value} {vs : List Value} (h : OwnV a base e v vs) (k : Kept S a b) (hs : ∀ i, v.ownBlock = some i → ¬ S i) : OwnV b base e v vs :=
  h.step fun i hi hlt => k.block i hlt (hs i hi)
theorem OwnB.kept {S : Nat → Prop} {a b : World} {base : Nat} {v : Value} {vs : List UInt8} (h : OwnB a base v vs) (k : Kept S a b) (hs : ∀ i, v.ownBlock = some i → ¬ S i) : OwnB b base v vs :=
  h.step fun i hi hlt => k.block i hlt (hs i hi)
theorem RdV.kept {S : Nat → Prop} {a b : World} {A : Option Addr} {vs : List Value} (h : RdV a A vs) (k : Kept S a b) (hs : ∀ ad, A = some ad → ¬ S ad.block) : RdV b A vs := fun j u hu => by
  obtain ⟨ad, e, hc⟩ := h j u hu
  exact ⟨ad, e, k.cell' hc (by unfold Addr.add; split <;> exact hs ad e)⟩
theorem RdB.kept {S : Nat → Prop} {a b : World} {A : Option Addr} {vs : List UInt8} (h : RdB a A vs) (k : Kept S a b) (hs : ∀ ad, A = some ad → ¬ S ad.block) : RdB b A vs := (h.toV.kept k hs).toB

/-! ### whole blocks -/
theorem cells_of {w : World} {g : Nat} {cs : Array Value} {e : TypeId} {m : Nat × Nat} (h : w.heap[g]? = some (.cells cs e m)) (i : Nat) : w.cell? ⟨g, i, none⟩ = cs[i]? := cell_of_row w g i cs e m h
theorem frozen_of {w : World} {g : Nat} {cs : Array Value} {e : TypeId} (h : w.heap[g]? = some (.cells cs e (0, 0))) (i : Nat) : w.frozen? ⟨g, i, none⟩ = false := by simp [World.frozen?, h]
theorem set_at {w : World} {g : Nat} {cs : Array Value} {e : TypeId} {m : Nat × Nat} (h : w.heap[g]? = some (.cells cs e m)) (i : Nat) (v : Value) : (w.setCell ⟨g, i, none⟩ v).heap[g]? = some (.cells (cs.setIfInBounds i v) e m) := by
  rw [setCell_eq_setRow w g i cs e m v h]
  exact setRow_heap w g cs _ e m h
theorem set_off {w : World} {g k : Nat} (i : Nat) (v : Value) (hk : k ≠ g) : (w.setCell ⟨g, i, none⟩ v).heap[k]? = w.heap[k]? := Below.heap_setCell w ⟨g, i, none⟩ v k hk

/-- A store into a row of one's own. -/
theorem OwnV.set {w : World} {base : Nat} {e : TypeId} {g n c : Nat} {vs : List Value} (h : OwnV w base e (.slice (some ⟨g, 0, none⟩) n c) vs) (i : Nat) (hi : i < vs.length) (u : Value) :
    OwnV (w.setCell ⟨g, i, none⟩ u) base e (.slice (some ⟨g, 0, none⟩) n c) (vs.set i u) := by
  refine ⟨by simp, ?_⟩
  rcases h.2 with ⟨he, _⟩ | ⟨g', cap, cur, he, hb, hg, hn, hm, hs, ht⟩
  · injection he with h1; cases h1
  · injection he with h1 h2 h3
    injection h1 with h1
    injection h1 with h1
    subst h1; subst h2; subst h3
    refine .inr ⟨g, c, cur.setIfInBounds i u, by simp, hb, set_at hg i u, by simpa using hn, hm, by simpa using hs, ?_⟩
    simp only [Nat.mul_one, List.length_set] at ht ⊢
    rw [Array.toList_setIfInBounds, List.take_set, ht]
theorem OwnV.row {w : World} {base : Nat} {e : TypeId} {A : Option Addr} {n c : Nat} {vs : List Value} (h : OwnV w base e (.slice A n c) vs) (hn : 0 < vs.length) :
    ∃ g cur, A = some ⟨g, 0, none⟩ ∧ base ≤ g ∧ g < w.heap.size ∧ w.heap[g]? = some (.cells cur e (0, 0)) ∧ n = vs.length ∧ vs.length ≤ c ∧ c ≤ maxLen ∧ cur.size = c ∧ cur.toList.take vs.length = vs := by
  rcases h.2 with ⟨he, h0⟩ | ⟨g', cap, cur, he, hb, hg, hn, hm, hs, ht⟩
  · omega
  · injection he with h1 h2 h3
    subst h3
    exact ⟨g', cur, h1, hb, (Array.getElem?_eq_some_iff.1 hg).1, hg, h2, hn, hm, by simpa using hs, by simpa using ht⟩
theorem OwnV.of_row {w : World} {base : Nat} {e : TypeId} {g c : Nat} {vs : List Value} {cur : Array Value} (hb : base ≤ g) (hg : w.heap[g]? = some (.cells cur e (0, 0))) (hn : vs.length ≤ c) (hm : c ≤ maxLen) (hs : cur.size = c) (ht : cur.toList.take vs.length = vs) :
    OwnV w base e (.slice (some ⟨g, 0, none⟩) vs.length c) vs := ⟨by simp, .inr ⟨g, c, cur, rfl, hb, hg, hn, hm, by simpa using hs, by simpa using ht⟩⟩
theorem own_type {w : World} {base : Nat} {e : TypeId} {v : Value} {vs : List Value} (h : OwnV w base e v vs) {k : Nat} (hk : v.ownBlock = some k) : ∃ cur, w.heap[k]? = some (.cells cur e (0, 0)) := by
  rcases h.2 with ⟨rfl, h0⟩ | ⟨g', cap, cur, rfl, hb, hg, hn, hm, hs, ht⟩
  · simp [Value.ownBlock] at hk
  · simp [Value.ownBlock] at hk
    subst hk
    exact ⟨cur, hg⟩

/-! ### append, and where the new row lies -/
section
variable {P : Program} {ops : Array Oper} {rest : List Oper} {o : Oper} {a : Act} {Q : Exit → Act → World → Prop}
theorem app_src_at {W : World} (hgd : o.guard = none) (s x : Operand) (t e : TypeId) (z : Value) (bytes : Nat)
    (ho : o.op = .call { callee := .builtin .append, args := #[s, x], argTypes := #[t, t] })
    (ht : P.underlying t = some (.slice e)) (hinfo : (P.info? e).map (fun i => (i.zero, i.size, i.bytes)) = some (some z, 1, bytes)) (hz : z.cells.size = 1) (hb0 : 0 < bytes)
    (v : Value) (vs news : List Value) (A : Option Addr) (c : Nat) (hs : a.eval s = v) (hx : a.eval x = .slice A news.length c) (h1 : ∀ u ∈ news, u.oneCell' = true)
    (HO : OwnV W 0 e v vs) (HR : RdV W A news) (hl : (vs.length + news.length) * bytes ≤ 140737488355328)
    (hnone : A = none → c = 0) (N : Nat) (hN : vs.length + news.length = N)
    (h : ∀ B1 c1 w1, OwnV w1 0 e (.slice B1 N c1) (vs ++ news) → Kept (fun k => v.ownBlock = some k) W w1 → (∀ k, (Value.slice B1 N c1).ownBlock = some k → v.ownBlock = some k ∨ W.heap.size ≤ k) → wpList P ops Q rest (a.put o.dst (.slice B1 N c1)) w1) :
    wpList P ops Q (o :: rest) a W := by
  subst hN
  obtain ⟨i0, hi, hz0, hz1, hz2⟩ := info_parts' hinfo
  have hlen : vs.length + news.length ≤ 140737488355328 := Nat.le_trans (Nat.le_mul_of_pos_right _ hb0) hl
  cases A with
  | some ad =>
    refine wpList_append_own_at W hgd s x t ho 0 e i0 z 1 bytes ht hi hz0 hz1 hz2 hz (by omega) v vs.length vs hs HO ad news.length c news hx (by simp)
      (fun j u hu => by obtain ⟨ad', e', hc⟩ := HR j u hu; cases e'; exact hc) h1 (by simp only [maxLen]; omega) hl (Nat.zero_le _) ?_
    intro v1 w1 hown hg _ hat
    have o1 : OwnV w1 0 e v1 (vs ++ news) := by unfold OwnV; rw [List.length_append]; exact hown
    obtain ⟨B1, c1, rfl, _, _, _⟩ := o1.shape
    rw [List.length_append] at o1 hat ⊢
    refine h B1 c1 w1 o1 (Kept.of_grown hg fun k hk _ => hk) (fun k hk => ?_)
    rcases hat with hat | hat
    · exact .inl (hat ▸ hk)
    · rw [hat] at hk
      injection hk with hk
      exact .inr (by omega)
  | none =>
    have h0 : news = [] := by
      cases news with
      | nil => rfl
      | cons u r => obtain ⟨ad', e', _⟩ := HR 0 u rfl; cases e'
    subst h0
    obtain rfl := hnone rfl
    obtain ⟨B1, c1, rfl, _, _, _⟩ := HO.shape
    exact wpList_append_own_none hgd s x t ho 0 e i0 1 ht hi _ vs.length vs hs HO hx
      (h B1 c1 W (by rw [List.append_nil]; exact HO) (Kept.refl _ _) (fun k hk => .inl hk))

theorem app_one_at {W : World} (hgd : o.guard = none) (s x : Operand) (t e : TypeId) (z : Value) (bytes : Nat)
    (ho : o.op = .call { callee := .builtin .append, args := #[s, x], argTypes := #[t, t] })
    (ht : P.underlying t = some (.slice e)) (hinfo : (P.info? e).map (fun i => (i.zero, i.size, i.bytes)) = some (some z, 1, bytes)) (hz : z.cells.size = 1) (hb0 : 0 < bytes)
    (v : Value) (vs : List Value) (y : Value) (hs : a.eval s = v) (hx : a.eval x = .slice (some ⟨W.heap.size, 0, none⟩) 1 1) (h1 : y.oneCell' = true)
    (HO : OwnV W 0 e v vs) (hl : (vs.length + 1) * bytes ≤ 140737488355328) (N : Nat) (hN : vs.length + 1 = N)
    (h : ∀ B1 c1 w1, OwnV w1 0 e (.slice B1 N c1) (vs ++ [y]) → Kept (fun k => v.ownBlock = some k) W w1 → (∀ k, (Value.slice B1 N c1).ownBlock = some k → v.ownBlock = some k ∨ W.heap.size ≤ k) → wpList P ops Q rest (a.put o.dst (.slice B1 N c1)) w1) :
    wpList P ops Q (o :: rest) a (W.alloc (.cells #[y] e)) := by
  refine app_src_at hgd s x t e z bytes ho ht hinfo hz hb0 v vs [y] (some ⟨W.heap.size, 0, none⟩) 1 hs hx (by simpa using h1) (HO.alloc _) ?_ (by simpa using hl) (by simp) N (by simpa using hN) ?_
  · intro j u hu
    refine ⟨_, rfl, ?_⟩
    have hj : j = 0 := by have := (List.getElem?_eq_some_iff.1 hu).1; simp at this; exact this
    subst hj
    have hu' : y = u := by simpa using hu
    subst hu'
    show (W.alloc (.cells #[y] e)).cell? ⟨W.heap.size, 0, none⟩ = some y
    have := heap_alloc_new W (.cells #[y] e)
    simp only [World.cell?, this]
    rfl
  · intro B1 c1 w1 h2 h3 h4
    refine h B1 c1 w1 h2 (((Kept.refl _ W).alloc _).trans h3 (fun _ _ h => h)) (fun k hk => ?_)
    rcases h4 k hk with h5 | h5
    · exact .inl h5
    · simp at h5; exact .inr (by omega)
end
end Go.Proofs.YtcmndglhileeoaaGreat

/- Walks: slices.Index, dict.ahead. -/
set_option linter.unusedSimpArgs false
set_option linter.unusedVariables false
namespace Go.Proofs.YtcmndglhileeoaaGreat
open Go.RowKit

abbrev intv (n : Nat) : Value := .int .i64 (n : Int)

set_option maxHeartbeats 400000 in
theorem index_any (A : Option Addr) (l : List Nat) (c x p : Nat) (w : World) (hr : RdV w A (l.map intv)) (hl : l.length ≤ 4096) (hp : l[p]? = some x) (hno : ∀ j, j < p → l[j]? ≠ some x) :
    Calls Tryz.prog 117 #[.slice A l.length c, .int .i64 (x : Int)] w fun e w' => e = .returned (.int .i64 (p : Int)) ∧ w = w' := by
  have hpl : p < l.length := (List.getElem?_eq_some_iff.1 hp).1
  have Hp := Lib.hid hp
  have Hno := Lib.hid hno
  clear hp hno
  go_enter Tryz.func117, Tryz.ntmps117
  go_wp2
  go_loop [8] (fun i => ∃ k : Nat, i = .int .i64 (k : Int) ∧ k ≤ p) (fun i => p - (intOf i).toNat)
  case atStart => exact ⟨0, rfl, by omega⟩
  case round =>
    obtain ⟨k, rfl, hk⟩ := hrel
    have hkl : k < l.length := by omega
    obtain ⟨y, hy⟩ := some_at hkl
    obtain ⟨ad, rfl, hcell⟩ := hr k (intv y) (by simp [hy])
    by_cases hkp : k = p
    · subst hkp
      have hxy : ((x : Int) == (y : Int)) = true := by
        rw [Hp.out] at hy
        injection hy with hy
        subst hy
        simp
      go_wp2
      go_ret
      exact ⟨rfl, rfl⟩
    · have hxy : ((x : Int) == (y : Int)) = false := by
        rw [beq_eq_false_iff_ne]
        intro e
        exact Hno.out k (by omega) (by rw [hy]; congr 1; omega)
      go_wp2
      exact ⟨⟨k + 1, rfl, by omega⟩, by simp only [intOf]; omega⟩

theorem Kept.of_drew {S : Nat → Prop} {a b : World} {g : Nat} (h : a.drew.grownBy b (some g)) (hS : S g) : Kept S a b :=
  ⟨h.os, h.tape, h.output, h.size, fun i hi hn => h.block i hi (fun e => hn (by injection e with e; rw [e]; exact hS))⟩

/-- copy into a row that is known whole, as one step of a region that draws. -/
theorem step_copy_kept {P : Program} {ops : Array Oper} {o : Oper} {a : Act} {w : World} {K : Act → World → Prop} {Q : Exit → Act → World → Prop} {E : Prop} (hgd : o.guard = none) (d s : Operand) (dT sT : TypeId)
    (ho : o.op = .call { callee := .builtin .copy, args := #[d, s], argTypes := #[dT, sT] }) (elem : TypeId) (hu : P.underlying dT = some (.slice elem)) (hsz : (P.info? elem).map (·.size) = some 1)
    (dp sp : Option Addr) (dLen dCap sLen sCap : Nat) (hd : a.eval d = .slice dp dLen dCap) (hs : a.eval s = .slice sp sLen sCap)
    (g off : Nat) (cur : Array Value) (t : TypeId) (hg : w.heap[g]? = some (.cells cur t (0, 0))) (cs : List Value) (hn : cs.length = Nat.min sLen dLen)
    (hpos : 0 < cs.length → dp = some ⟨g, off, none⟩ ∧ ∃ ad, sp = some ad ∧ ∀ j v, cs[j]? = some v → w.cell? (ad.add j) = some v)
    (hfit : off + cs.length ≤ cur.size) (h1 : ∀ v ∈ cs, v.oneCell' = true)
    (h : ∀ w', RowKit.Hid (w'.heap[g]? = some (.cells (splice cur.toList off cs).toArray t (0, 0))) → RowKit.Hid (w.grownBy w' (some g)) → K (a.put o.dst (goInt cs.length)) w') :
    if Region.wanted o (yielded ops a.tmps) = true then Oper.wp P o a w K Q else E := by
  have hw : Region.wanted o (yielded ops a.tmps) = true := by simp [Region.wanted, hgd]
  rw [if_pos hw]
  by_cases h0 : cs.length = 0
  · obtain rfl : cs = [] := List.eq_nil_of_length_eq_zero h0
    have hrun := run_copy_none (P := P) w dT sT o.type elem dp sp dLen dCap sLen sCap hu hsz (by simpa using hn.symm)
    unfold Oper.wp
    simp [execOp, ho, resolve, invoke, builtin, hd, hs, hrun, Result.andThen]
    exact h w (show _ = _ by simpa [splice] using hg) (show World.grownBy _ _ _ from ⟨rfl, rfl, rfl, Nat.le_refl _, fun _ _ _ => rfl⟩)
  · obtain ⟨rfl, ad, rfl, hsrc⟩ := hpos (by omega)
    have hrun := run_copy_row (P := P) w dT sT o.type elem g off dLen dCap ad sLen sCap cur t cs hu hsz hg hn hsrc (by simpa using hfit) h1
    unfold Oper.wp
    simp [execOp, ho, resolve, invoke, builtin, hd, hs, hrun, Result.andThen]
    exact h _ (show _ = _ by simpa [splice] using setRow_heap w g _ _ t _ hg) (show World.grownBy _ _ _ from ⟨rfl, rfl, rfl, by simp, fun k _ hk => setRow_other w g k _ (fun e => hk (by rw [e]))⟩)

theorem map_eraseIdx {α β : Type} (f : α → β) : ∀ (l : List α) (p : Nat), (l.map f).eraseIdx p = (l.eraseIdx p).map f
  | [], _ => by simp
  | _ :: _, 0 => by simp
  | _ :: r, p + 1 => by simp [map_eraseIdx f r p]

theorem ahead_list {α : Type} (cur : List α) (n p : Nat) (x : α) (hn : n ≤ cur.length) (hp : p < n) (hx : cur[p]? = some x) :
    ((splice cur 1 ((cur.take n).take p)).set 0 x).take n = x :: (cur.take n).eraseIdx p := by
  have hl : ((cur.take n).take p).length = p := by simp; omega
  apply List.ext_getElem?
  intro i
  rw [List.getElem?_take]
  cases i with
  | zero => 
    rw [if_pos (by omega), List.getElem?_set]
    rw [if_pos rfl, if_pos (by rw [length_splice _ _ _ (by rw [hl]; omega)]; omega)]
    rfl
  | succ i =>
    rw [List.getElem?_cons_succ, List.getElem?_set_ne (by omega), List.getElem?_eraseIdx]
    unfold splice
    rw [hl]
    have e1 : (cur.take 1).length = 1 := by simp; omega
    rw [List.getElem?_append_right (by omega), e1]
    simp only [Nat.add_sub_cancel]
    by_cases hip : i < p
    · rw [List.getElem?_append_left (by omega), if_pos hip, List.getElem?_take, if_pos hip, if_pos (by omega)]
    · rw [List.getElem?_append_right (by omega), hl, if_neg hip, List.getElem?_drop, List.getElem?_take, show 1 + p + (i - p) = i + 1 by omega]

set_option maxHeartbeats 4000000 in
set_option maxRecDepth 100000 in
theorem ahead_any (v : Value) (l : List Nat) (p x : Nat) (w : World) (ho : OwnV w 0 3 v (l.map intv)) (hl : l.length ≤ 64) (hx : l[p]? = some x) :
    Calls Tryz.prog 116 #[v, .int .i64 (p : Int)] w fun e w' => e = .returned (.tuple #[]) ∧ OwnV w' 0 3 v ((x :: l.eraseIdx p).map intv) ∧ Kept (fun k => v.ownBlock = some k) w w' := by
  have hp : p < l.length := (List.getElem?_eq_some_iff.1 hx).1
  obtain ⟨A, c, rfl, hc, hcm, hr⟩ := ho.shape
  obtain ⟨g, cur, rfl, _, hg', hg, _, _, _, hs, ht⟩ := ho.row (by simp; omega)
  have hcx : cur.toList[p]? = some (intv x) := by
    have h1 : (cur.toList.take (l.map intv).length)[p]? = some (intv x) := by rw [ht]; simp [hx]
    rw [List.getElem?_take, if_pos (by simpa using hp)] at h1
    exact h1
  have Hx : w.cell? ⟨g, p, none⟩ = some (intv x) := by rw [cells_of hg p, ← Array.getElem?_toList]; exact hcx
  rw [List.length_map] at *
  have Ho := Lib.hid ho
  have Hr := Lib.hid hr
  have Ht := Lib.hid ht
  have Hg := Lib.hid hg
  have Hs := Lib.hid hs
  have Hcx := Lib.hid hcx
  have Hxx := Lib.hid hx
  clear ho hr ht hs hcx hx hg
  have Hfin : ∀ w' : World, w'.heap[g]? = some (.cells ((splice cur.toList 1 ((l.map intv).take p)).set 0 (intv x)).toArray 3 (0, 0)) → OwnV w' 0 3 (.slice (some ⟨g, 0, none⟩) l.length c) ((x :: l.eraseIdx p).map intv) := by
    intro w' hw
    have e : ((x :: l.eraseIdx p).map intv).length = l.length := by simp [List.length_eraseIdx, hp]; omega
    have hcl : l.length ≤ cur.toList.length := by have := Hs.out; simp only [Array.length_toList]; omega
    have := ahead_list cur.toList l.length p (intv x) hcl hp Hcx.out
    rw [Ht.out] at this
    have h2 : ((l.map intv).take p).length = p := by simp; omega
    have r := OwnV.of_row (w := w') (vs := (x :: l.eraseIdx p).map intv) (Nat.zero_le g) hw (by rw [e]; exact hc) hcm (by simp only [List.size_toArray, List.length_set]; rw [length_splice _ _ _ (by rw [h2]; omega), Array.length_toList, Hs.out])
      (by rw [e, List.toList_toArray, this]; simp [map_eraseIdx])
    rw [e] at r
    exact r
  have Hl : Hid (((l.map intv).take p).length = p) := Lib.hid (by simp; omega)
  have h1c : ∀ u ∈ (l.map intv).take p, u.oneCell' = true := fun u hu => by
    obtain ⟨y, _, rfl⟩ := List.mem_map.1 (List.mem_of_mem_take hu)
    rfl
  obtain ⟨cs, hcs⟩ : ∃ cs, cs = (l.map intv).take p := ⟨_, rfl⟩
  rw [← hcs] at Hfin Hl h1c
  have Hcs := Lib.hid hcs
  clear hcs
  go_enter Tryz.func116, Tryz.ntmps116
  go_wp2_with fail
  have hgc : Hid (∀ j v, cs[j]? = some v → w.cell? ((⟨g, 0, none⟩ : Addr).add j) = some v) := Lib.hid (fun j v hv => by
    rw [Hcs.out, List.getElem?_take] at hv
    split at hv
    · obtain ⟨ad, e, hc⟩ := Hr.out j v hv
      injection e with e
      rw [e]; exact hc
    · cases hv)
  have hw1 : IntKind.i64.wrap ((p : Int) + 1) = (p : Int) + 1 := IntWalk.i64_in _ (by omega)
  have hw2 : (0 : Int) ≤ (p : Int) + 1 := by omega
  have hw3 : (p : Int) + 1 ≤ (c : Int) := by omega
  have hw4 : (1 : Int) ≤ max ((p : Int) + 1) 0 := by omega
  have hw10 : (1 : Int) ≤ (p : Int) + 1 := by omega
  have hw5 : ((p : Int) + 1).toNat = p + 1 := by omega
  have hw6 : (p : Int) ≤ (c : Int) := by omega
  have hw7 : p ≤ c := by omega
  by_cases hc1 : c = 1
  · have hp0 : p = 0 := by omega
    subst hp0
    subst hc1
    have hw8 : (IntKind.i64.wrap 1 : Int) = 1 := by decide
    have hw9 : (0 : Int) < (l.length : Int) := by omega
    go_region_law (refine step_copy_kept rfl (.tmp 12) (.tmp 15) 39 39 rfl 3 Tryz.underlying39 (by rfl) _ _ _ _ _ _ (by rfl) (by rfl) g 1 cur 3 Hg.out cs (by rw [Hl.out]; simp) (fun h => by rw [Hl.out] at h; omega) (by rw [Hl.out, Hs.out]; omega) h1c ?_; intro w2 hw2 hk2)
    obtain ⟨y, ys, hy⟩ : ∃ y ys, splice cur.toList 1 cs = y :: ys := by
      cases h : splice cur.toList 1 cs with
      | nil =>
        have h3 := Hs.out
        have h4 := length_splice cur.toList 1 cs (by rw [Hl.out]; simp only [Array.length_toList]; omega)
        rw [h] at h4
        simp only [Array.length_toList, List.length_nil] at h4
        omega
      | cons y ys => exact ⟨y, ys, rfl⟩
    have hy0 : w2.cell? ⟨g, 0, none⟩ = some y := by rw [cells_of hw2.out 0, hy]; rfl
    have hf0 : w2.frozen? ⟨g, 0, none⟩ = false := frozen_of hw2.out 0
    clear hy
    go_wp2_with fail
    exact bodyPost_end (v := .tuple #[]) (by simp [results, Tryz.results116, go_sem]) rfl ⟨rfl, Hfin _ (by
        rw [set_at hw2.out 0]; simp),
      (Kept.of_drew hk2.out (show Value.ownBlock _ = some g from rfl)).setCell ⟨g, 0, none⟩ _ (.inl rfl)⟩
  · have hp1 : 1 < c := by omega
    have hc2 : ¬ c = 1 := hc1
    have hw9 : (0 : Int) < (l.length : Int) := by omega
    go_region_law (refine step_copy_kept rfl (.tmp 12) (.tmp 15) 39 39 rfl 3 Tryz.underlying39 (by rfl) _ _ _ _ _ _ (by rfl) (by rfl) g 1 cur 3 Hg.out cs (by rw [Hl.out]; simp) (fun h => ⟨rfl, _, rfl, hgc.out⟩) (by rw [Hl.out, Hs.out]; omega) h1c ?_; intro w2 hw2 hk2)
    obtain ⟨y, ys, hy⟩ : ∃ y ys, splice cur.toList 1 cs = y :: ys := by
      cases h : splice cur.toList 1 cs with
      | nil =>
        have h3 := Hs.out
        have h4 := length_splice cur.toList 1 cs (by rw [Hl.out]; simp only [Array.length_toList]; omega)
        rw [h] at h4
        simp only [Array.length_toList, List.length_nil] at h4
        omega
      | cons y ys => exact ⟨y, ys, rfl⟩
    have hy0 : w2.cell? ⟨g, 0, none⟩ = some y := by rw [cells_of hw2.out 0, hy]; rfl
    have hf0 : w2.frozen? ⟨g, 0, none⟩ = false := frozen_of hw2.out 0
    clear hy
    go_wp2_with fail
    exact bodyPost_end (v := .tuple #[]) (by simp [results, Tryz.results116, go_sem]) rfl ⟨rfl, Hfin _ (by
        rw [set_at hw2.out 0]; simp),
      (Kept.of_drew hk2.out (show Value.ownBlock _ = some g from rfl)).setCell ⟨g, 0, none⟩ _ (.inl rfl)⟩
end Go.Proofs.YtcmndglhileeoaaGreat

/- Walks of package dict: Look, used. -/
set_option linter.unusedSimpArgs false
set_option linter.unusedVariables false
namespace Go.Proofs.YtcmndglhileeoaaGreat
open Go.RowKit

set_option maxHeartbeats 1000000 in
set_option maxRecDepth 100000 in
theorem used_low (w : World) (g bm : Nat) (room : Int) (kv ov : Value) (order : List Nat) (slot : Nat) (hg : w.heap[g]? = some (.cells #[.int .i64 room, kv, .map (some bm), ov] 166 (0, 0)))
    (ho : OwnV w 0 3 ov (order.map intv)) (hl : order.length ≤ 64) (hs : slot ∈ order) :
    Calls Tryz.prog 86 #[.pointer (some ⟨g, 0, none⟩), .int .i64 (slot : Int)] w fun e w' => e = .returned (.tuple #[]) ∧ OwnV w' 0 3 ov ((slot :: order.erase slot).map intv) ∧ Kept (fun k => ov.ownBlock = some k) w w' := by
  obtain ⟨p, hp⟩ : ∃ p, p = order.idxOf slot := ⟨_, rfl⟩
  have hpl : p < order.length := by rw [hp]; exact List.idxOf_lt_length_iff.2 hs
  have hpx : order[p]? = some slot := by
    rw [List.getElem?_eq_getElem hpl]
    congr 1
    subst hp
    exact List.getElem_idxOf hpl
  have hno : ∀ j, j < p → order[j]? ≠ some slot := by
    intro j hj h
    obtain ⟨hjl, hje⟩ := List.getElem?_eq_some_iff.1 h
    have := List.not_of_lt_findIdx (p := (· == slot)) (xs := order) (i := j) (by rw [hp] at hj; exact hj)
    simp [hje] at this
  have her : order.erase slot = order.eraseIdx p := by rw [List.erase_eq_eraseIdx_of_idxOf hp.symm]
  have Hr := ho.shape
  obtain ⟨A, c, hov, hc, hcm, hr⟩ := Hr
  rw [List.length_map] at hov
  subst hov
  have c0 : w.cell? ⟨g, 3, none⟩ = some (.slice A order.length c) := by rw [cells_of hg]; rfl
  rw [her]
  have Hp := Lib.hid hpx
  have Hno := Lib.hid hno
  have Ho := Lib.hid ho
  have Hr := Lib.hid hr
  clear hp hpx hno ho hr hg her hs
  go_enter Tryz.func86, Tryz.ntmps86
  go_region_with (first
    | (go_at_call 117; refine (index_any A order c slot p w.drew Hr.out (by omega) Hp.out Hno.out).mono ?_; rintro e w1 ⟨rfl, rfl⟩)
    | (go_at_call 116; refine (ahead_any (.slice A order.length c) order p slot w.drew Ho.out hl Hp.out).mono ?_; rintro e w2 ⟨rfl, ho2, hk2⟩))
  all_goals
    refine bodyPost_end (v := .tuple #[]) (by simp [results, Tryz.results86, go_sem]) rfl ⟨rfl, ho2, ?_⟩
    exact ⟨hk2.os, hk2.tape, hk2.output, hk2.size, hk2.block⟩

/-! ### what a dictionary is -/
structure DOk (d : Rv.Dict) : Prop where
  r0 : 1 ≤ d.room
  r1 : d.room ≤ 64
  few : d.keys.length ≤ d.room
  nodup : d.keys.Nodup
  size : ∀ k ∈ d.keys, k.size ≤ 64
  perm : d.order.Perm (List.range d.keys.length)

theorem DOk.len {d : Rv.Dict} (h : DOk d) : d.order.length = d.keys.length := by simpa using h.perm.length_eq
theorem DOk.mem {d : Rv.Dict} (h : DOk d) {s : Nat} : s ∈ d.order ↔ s < d.keys.length := by rw [h.perm.mem_iff, List.mem_range]
theorem DOk.used {d : Rv.Dict} (h : DOk d) {s : Nat} (hs : s < d.keys.length) : DOk (d.used s) := by
  refine ⟨h.r0, h.r1, h.few, h.nodup, h.size, ?_⟩
  show (s :: d.order.erase s).Perm _
  exact ((List.perm_cons_erase (h.mem.2 hs)).symm).trans h.perm
theorem idxOf_of : ∀ {l : List ByteArray} (_ : l.Nodup) {s : Nat} {k : ByteArray} (_ : l[s]? = some k), l.idxOf k = s
  | [], _, _, _, h => by simp at h
  | a :: r, hn, 0, k, h => by
    haveI := Rv.ba_lawful
    simp at h
    subst h
    exact List.idxOf_cons_self
  | a :: r, hn, s + 1, k, h => by
    haveI := Rv.ba_lawful
    obtain ⟨h1, h2⟩ := List.nodup_cons.1 hn
    have h3 : r[s]? = some k := by simpa using h
    have hne : k ≠ a := fun e => h1 (e ▸ List.mem_of_getElem? h3)
    rw [List.idxOf_cons, Rv.ba_eq, decide_eq_false (Ne.symm hne), idxOf_of h2 h3]
    rfl
theorem find_of {d : Rv.Dict} (h : d.keys.Nodup) {s : Nat} {k : ByteArray} (hk : d.keys[s]? = some k) : d.find k = some s := by
  unfold Rv.Dict.find
  rw [idxOf_of h hk, if_pos (List.getElem?_eq_some_iff.1 hk).1]
theorem find_some {d : Rv.Dict} {s : Nat} {k : ByteArray} (h : d.find k = some s) : d.keys[s]? = some k := by
  haveI := Rv.ba_lawful
  unfold Rv.Dict.find at h
  split at h
  · rename_i hl
    injection h with h
    subst h
    rw [List.getElem?_eq_getElem hl]
    congr 1
    exact List.getElem_idxOf hl
  · cases h
theorem find_none {d : Rv.Dict} {k : ByteArray} : d.find k = none ↔ k ∉ d.keys := by
  haveI := Rv.ba_lawful
  unfold Rv.Dict.find
  split
  · rename_i hl
    simp [List.idxOf_lt_length_iff.1 hl]
  · rename_i hl
    simp
    exact fun h => hl (List.idxOf_lt_length_iff.2 h)

/-- At g stands a dictionary; its memory lies in S. -/
def DictAt (w : World) (S : Nat → Prop) (g : Nat) (d : Rv.Dict) : Prop :=
  DOk d ∧ ∃ kv bm ov es clock, w.heap[g]? = some (.cells #[.int .i64 (d.room : Int), kv, .map (some bm), ov] 166 (0, 0)) ∧
    OwnV w 0 9 kv (d.keys.map .string) ∧ OwnV w 0 3 ov (d.order.map intv) ∧
    w.heap[bm]? = some (.map es clock) ∧ Rv.SMap es clock ∧ (∀ k, Rv.findE es.toList k = (d.find k).map intv) ∧
    S g ∧ S bm ∧ (∀ k, kv.ownBlock = some k → S k) ∧ (∀ k, ov.ownBlock = some k → S k)

theorem DictAt.kept {w w' : World} {S T : Nat → Prop} {g : Nat} {d : Rv.Dict} (h : DictAt w S g d) (k : Kept T w w') (hd : ∀ i, S i → ¬ T i) : DictAt w' S g d := by
  obtain ⟨ok, kv, bm, ov, es, clock, h1, h2, h3, h4, h5, h6, h7, h8, h9, h10⟩ := h
  refine ⟨ok, kv, bm, ov, es, clock, ?_, h2.kept k (fun i hi => hd i (h9 i hi)), h3.kept k (fun i hi => hd i (h10 i hi)), ?_, h5, h6, h7, h8, h9, h10⟩
  · rw [k.block g (Array.getElem?_eq_some_iff.1 h1).1 (hd g h7)]; exact h1
  · rw [k.block bm (Array.getElem?_eq_some_iff.1 h4).1 (hd bm h8)]; exact h4
theorem DictAt.mono {w : World} {S S' : Nat → Prop} {g : Nat} {d : Rv.Dict} (h : DictAt w S g d) (hs : ∀ i, i < w.heap.size → S i → S' i) : DictAt w S' g d := by
  obtain ⟨ok, kv, bm, ov, es, clock, h1, h2, h3, h4, h5, h6, h7, h8, h9, h10⟩ := h
  exact ⟨ok, kv, bm, ov, es, clock, h1, h2, h3, h4, h5, h6, hs _ (Array.getElem?_eq_some_iff.1 h1).1 h7, hs _ (Array.getElem?_eq_some_iff.1 h4).1 h8, fun k hk => hs _ (h2.block k hk).2 (h9 k hk), fun k hk => hs _ (h3.block k hk).2 (h10 k hk)⟩
theorem DictAt.below {w w' : World} {S : Nat → Prop} {g : Nat} {d : Rv.Dict} (h : DictAt w S g d) (hb : Below w.heap.size w w') : DictAt w' S g d := h.kept (Kept.of_below (S := fun _ => False) hb) (fun _ _ h => h)

theorem zero_int (w : World) : (zeroValue 3).run Tryz.prog w = .ok (.int .i64 0) w := by go_simp

def lookRes (o : Option Nat) : Int := match o with | some s => (s : Int) | none => -1

set_option maxHeartbeats 1000000 in
theorem look_any (w : World) (S : Nat → Prop) (g : Nat) (d : Rv.Dict) (key : ByteArray) (h : DictAt w S g d) :
    Calls Tryz.prog 85 #[.pointer (some ⟨g, 0, none⟩), .string key] w fun e w' => e = .returned (.int .i64 (lookRes (d.find key))) ∧ w = w' := by
  obtain ⟨ok, kv, bm, ov, es, clock, h1, h2, h3, h4, h5, h6, _⟩ := h
  have c0 : w.cell? ⟨g, 2, none⟩ = some (.map (some bm)) := by rw [cells_of h1]; rfl
  have hrun := Rv.run_look (P := Tryz.prog) (t := 164) (k := 9) (e := 3) Tryz.underlying164 Tryz.underlying9 h4 h5 key zero_int true
  rw [h6] at hrun
  clear h1 h2 h3 h4 h5 h6 ok
  cases hf : d.find key with
  | none =>
    rw [hf] at hrun
    simp only [Option.map_none, Option.getD_none, Option.isSome_none, if_true] at hrun
    clear hf
    go_enter Tryz.func85, Tryz.ntmps85
    go_wp2
    go_ret
    exact ⟨rfl, rfl⟩
  | some s =>
    rw [hf] at hrun
    simp only [Option.map_some, Option.getD_some, Option.isSome_some, if_true] at hrun
    clear hf
    go_enter Tryz.func85, Tryz.ntmps85
    go_wp2
    go_ret
    exact ⟨rfl, rfl⟩
end Go.Proofs.YtcmndglhileeoaaGreat

/- Walks of package dict: Use. -/
set_option linter.unusedSimpArgs false
set_option linter.unusedVariables false
namespace Go.Proofs.YtcmndglhileeoaaGreat
open Go.RowKit

/-- The same, taken apart: while a call works on it. -/
structure DictMid (w : World) (g : Nat) (room : Int) (kv : Value) (bm : Nat) (ov : Value) (ks os : List Value) (es : Array MapEntry) (clock : Nat) : Prop where
  row : w.heap[g]? = some (.cells #[.int .i64 room, kv, .map (some bm), ov] 166 (0, 0))
  keys : OwnV w 0 9 kv ks
  order : OwnV w 0 3 ov os
  slots : w.heap[bm]? = some (.map es clock)
  fit : Rv.SMap es clock

section
variable {w w1 : World} {g : Nat} {room : Int} {kv : Value} {bm : Nat} {ov : Value} {ks os : List Value} {es : Array MapEntry} {clock : Nat}
theorem DictMid.kg (h : DictMid w g room kv bm ov ks os es clock) : kv.ownBlock ≠ some g := fun e => by obtain ⟨cur, hc⟩ := own_type h.keys e; rw [h.row] at hc; cases hc
theorem DictMid.og (h : DictMid w g room kv bm ov ks os es clock) : ov.ownBlock ≠ some g := fun e => by obtain ⟨cur, hc⟩ := own_type h.order e; rw [h.row] at hc; cases hc
theorem DictMid.kb (h : DictMid w g room kv bm ov ks os es clock) : kv.ownBlock ≠ some bm := fun e => by obtain ⟨cur, hc⟩ := own_type h.keys e; rw [h.slots] at hc; cases hc
theorem DictMid.ob (h : DictMid w g room kv bm ov ks os es clock) : ov.ownBlock ≠ some bm := fun e => by obtain ⟨cur, hc⟩ := own_type h.order e; rw [h.slots] at hc; cases hc
theorem DictMid.gb (h : DictMid w g room kv bm ov ks os es clock) : g ≠ bm := fun e => by have := h.row; rw [e, h.slots] at this; cases this
theorem DictMid.ko (h : DictMid w g room kv bm ov ks os es clock) {k : Nat} (h1 : kv.ownBlock = some k) : ov.ownBlock ≠ some k := fun e => by
  obtain ⟨cur, hc⟩ := own_type h.keys h1; obtain ⟨cur2, hc2⟩ := own_type h.order e; rw [hc] at hc2; cases hc2
theorem DictMid.lt (h : DictMid w g room kv bm ov ks os es clock) : g < w.heap.size := (Array.getElem?_eq_some_iff.1 h.row).1
theorem DictMid.ltb (h : DictMid w g room kv bm ov ks os es clock) : bm < w.heap.size := (Array.getElem?_eq_some_iff.1 h.slots).1

/-- keys turned (a row of its own, or new). -/
theorem DictMid.keysTo (h : DictMid w g room kv bm ov ks os es clock) {v1 : Value} {ks' : List Value} (o1 : OwnV w1 0 9 v1 ks') (k : Kept (fun i => kv.ownBlock = some i) w w1) : DictMid (w1.setCell ⟨g, 1, none⟩ v1) g room v1 bm ov ks' os es clock := by
  have hg1 : w1.heap[g]? = some (.cells #[.int .i64 room, kv, .map (some bm), ov] 166 (0, 0)) := (k.block g h.lt h.kg).trans h.row
  refine ⟨by rw [set_at hg1]; rfl, ?_, ?_, ?_, h.fit⟩
  · refine o1.step (fun i hi _ => set_off 1 v1 ?_)
    rintro rfl
    obtain ⟨cur, hc⟩ := own_type o1 hi
    rw [hg1] at hc; cases hc
  · exact (h.order.kept k (fun i hi e => h.ko e hi)).step (fun i hi _ => set_off 1 v1 (fun e => h.og (e ▸ hi)))
  · exact (set_off 1 v1 (Ne.symm h.gb)).trans ((k.block bm h.ltb h.kb).trans h.slots)
theorem DictMid.orderTo (h : DictMid w g room kv bm ov ks os es clock) {v1 : Value} {os' : List Value} (o1 : OwnV w1 0 3 v1 os') (k : Kept (fun i => ov.ownBlock = some i) w w1) : DictMid (w1.setCell ⟨g, 3, none⟩ v1) g room kv bm v1 ks os' es clock := by
  have hg1 : w1.heap[g]? = some (.cells #[.int .i64 room, kv, .map (some bm), ov] 166 (0, 0)) := (k.block g h.lt h.og).trans h.row
  refine ⟨by rw [set_at hg1]; rfl, ?_, ?_, ?_, h.fit⟩
  · exact (h.keys.kept k (fun i hi e => h.ko hi e)).step (fun i hi _ => set_off 3 v1 (fun e => h.kg (e ▸ hi)))
  · refine o1.step (fun i hi _ => set_off 3 v1 ?_)
    rintro rfl
    obtain ⟨cur, hc⟩ := own_type o1 hi
    rw [hg1] at hc; cases hc
  · exact (set_off 3 v1 (Ne.symm h.gb)).trans ((k.block bm h.ltb h.ob).trans h.slots)
/-- order turned in its row. -/
theorem DictMid.orderIn (h : DictMid w g room kv bm ov ks os es clock) {os' : List Value} (o1 : OwnV w1 0 3 ov os') (k : Kept (fun i => ov.ownBlock = some i) w w1) : DictMid w1 g room kv bm ov ks os' es clock :=
  ⟨(k.block g h.lt h.og).trans h.row, h.keys.kept k (fun i hi e => h.ko hi e), o1, (k.block bm h.ltb h.ob).trans h.slots, h.fit⟩
theorem DictMid.keySet (h : DictMid w g room kv bm ov ks os es clock) {b n c i : Nat} (u : Value) (hkv : kv = .slice (some ⟨b, 0, none⟩) n c) (hi : i < ks.length) : DictMid (w.setCell ⟨b, i, none⟩ u) g room kv bm ov (ks.set i u) os es clock := by
  subst hkv
  have hb : (Value.slice (some ⟨b, 0, none⟩) n c).ownBlock = some b := rfl
  refine ⟨(set_off i u (fun e => h.kg (by rw [e]; rfl))).trans h.row, h.keys.set i hi u, h.order.step (fun k hk _ => set_off i u (fun e => h.ko hb (e ▸ hk))), (set_off i u (fun e => h.kb (by rw [e]; rfl))).trans h.slots, h.fit⟩
theorem DictMid.map (h : DictMid w g room kv bm ov ks os es clock) {es' : Array MapEntry} {clock' : Nat} (f : Rv.SMap es' clock') : DictMid (Rv.setB w bm (.map es' clock')) g room kv bm ov ks os es' clock' :=
  ⟨(Rv.setB_other h.gb).trans h.row, h.keys.step (fun k hk _ => Rv.setB_other (fun e => h.kb (e ▸ hk))), h.order.step (fun k hk _ => Rv.setB_other (fun e => h.ob (e ▸ hk))), Rv.setB_same h.slots, f⟩
theorem DictMid.cells (h : DictMid w g room kv bm ov ks os es clock) : w.cell? ⟨g, 0, none⟩ = some (.int .i64 room) ∧ w.cell? ⟨g, 1, none⟩ = some kv ∧ w.cell? ⟨g, 2, none⟩ = some (.map (some bm)) ∧ w.cell? ⟨g, 3, none⟩ = some ov ∧
    (∀ i, w.frozen? ⟨g, i, none⟩ = false) := by
  refine ⟨?_, ?_, ?_, ?_, fun i => frozen_of h.row i⟩ <;> · rw [cells_of h.row]; rfl
end

theorem find_used (d : Rv.Dict) (s : Nat) (k : ByteArray) : (d.used s).find k = d.find k := rfl

def UseOk (w : World) (S : Nat → Prop) (g : Nat) (d : Rv.Dict) (key : ByteArray) (e : Ending) (w' : World) : Prop :=
  e = .returned (.tuple #[.int .i64 ((d.use key).2.1 : Int), .bool (d.use key).2.2, .int .i64 0]) ∧ ∃ S', DictAt w' S' g (d.use key).1 ∧ Kept S w w' ∧ (∀ k, S' k → S k ∨ w.heap.size ≤ k)

set_option maxHeartbeats 1000000 in
set_option maxRecDepth 100000 in
theorem use_had (w : World) (S : Nat → Prop) (g : Nat) (d : Rv.Dict) (key : ByteArray) (s : Nat) (h : DictAt w S g d) (h0 : 1 ≤ key.size) (h1 : key.size ≤ 64) (hf : d.find key = some s) :
    Calls Tryz.prog 42 #[.pointer (some ⟨g, 0, none⟩), .string key] w (UseOk w S g d key) := by
  have g0 : decide ((key.size : Int) < 1) = false := by simp; omega
  have g1 : decide ((64 : Int) < (key.size : Int)) = false := by simp; omega
  have hu : d.use key = (d.used s, s, true) := by unfold Rv.Dict.use; rw [hf]
  have hs : s < d.keys.length := (List.getElem?_eq_some_iff.1 (find_some hf)).1
  have hlr : lookRes (d.find key) = (s : Int) := by rw [hf]; rfl
  have H := Lib.hid h
  have Hu := Lib.hid hu
  have Hlr := Lib.hid hlr
  clear hlr hu h hf
  go_enter Tryz.func42, Tryz.ntmps42
  go_wp2_with fail
  refine (look_any _ S g d key H.out).mono ?_
  rintro e w1 ⟨rfl, rfl⟩
  rw [Hlr.out]
  go_wp2_with fail
  obtain ⟨ok, kv, bm, ov, es, clock, h1, h2, h3, h4, h5, h6, h7, h8, h9, h10⟩ := H.out
  refine (used_low _ g bm d.room kv ov d.order s h1 h3 (by rw [ok.len]; have := ok.few; have := ok.r1; omega) (ok.mem.2 hs)).mono ?_
  have ok' := ok.used hs
  rintro e w2 ⟨rfl, ho, hk⟩
  have hfin : DictAt w2 S g (d.used s) := by
    refine ⟨ok', kv, bm, ov, es, clock, ?_, ?_, ho, ?_, h5, h6, h7, h8, h9, h10⟩
    · rw [hk.block g (Array.getElem?_eq_some_iff.1 h1).1 (fun e => by obtain ⟨cur, hc⟩ := own_type h3 e; rw [h1] at hc; cases hc)]; exact h1
    · exact h2.kept hk (fun i hi e => by obtain ⟨cur, hc⟩ := own_type h3 e; obtain ⟨cur2, hc2⟩ := own_type h2 hi; rw [hc] at hc2; cases hc2)
    · rw [hk.block bm (Array.getElem?_eq_some_iff.1 h4).1 (fun e => by obtain ⟨cur, hc⟩ := own_type h3 e; rw [h4] at hc; cases hc)]; exact h4
  have hkS : Kept S w w2 := hk.mono (fun i _ e => h10 i e)
  clear ho hk h1 h2 h3 h4 h5 h6 h7 h8 h9 h10 ok ok'
  go_wp2_with fail
  go_ret3
  unfold UseOk
  rw [Hu.out]
  exact ⟨rfl, S, hfin, hkS, fun k hk => .inl hk⟩

set_option maxHeartbeats 1000000 in
set_option maxRecDepth 100000 in
theorem use_new (w : World) (S : Nat → Prop) (g : Nat) (d : Rv.Dict) (key : ByteArray) (h : DictAt w S g d) (h0 : 1 ≤ key.size) (h1 : key.size ≤ 64) (hf : d.find key = none) (hroom : d.keys.length < d.room) :
    Calls Tryz.prog 42 #[.pointer (some ⟨g, 0, none⟩), .string key] w (UseOk w S g d key) := by
  have g0 : decide ((key.size : Int) < 1) = false := by simp; omega
  have g1 : decide ((64 : Int) < (key.size : Int)) = false := by simp; omega
  have g2 : decide (d.keys.length < d.room) = true := by simp; omega
  have hu : d.use key = (Rv.Dict.used { d with keys := d.keys ++ [key], order := d.order ++ [d.keys.length] } d.keys.length, d.keys.length, false) := by unfold Rv.Dict.use; rw [hf]; simp only; rw [if_pos hroom]
  have hlr : lookRes (d.find key) = -1 := by rw [hf]; rfl
  have h1' := Lib.hid h1
  have H := Lib.hid h
  have Hu := Lib.hid hu
  have Hlr := Lib.hid hlr
  clear hlr hu h
  go_enter Tryz.func42, Tryz.ntmps42
  go_wp2_with fail
  refine (look_any _ S g d key H.out).mono ?_
  rintro e w1 ⟨rfl, rfl⟩
  rw [Hlr.out]
  obtain ⟨ok, kv, bm, ov, es, clock, h1, h2, h3, h4, h5, h6, h7, h8, h9, h10⟩ := H.out
  have M : Hid (DictMid w g d.room kv bm ov (d.keys.map .string) (d.order.map intv) es clock) := Lib.hid ⟨h1, h2, h3, h4, h5⟩
  have hS : Hid (S g ∧ S bm ∧ (∀ k, kv.ownBlock = some k → S k) ∧ (∀ k, ov.ownBlock = some k → S k)) := Lib.hid ⟨h7, h8, h9, h10⟩
  obtain ⟨A, c, hkv, hc1, hc2, hr⟩ := h2.shape
  rw [List.length_map] at hkv
  clear h1 h2 h3 h4 h5 h7 h8 h9 h10 hr hc1 hc2
  obtain ⟨c0, c1, c2, c3, cf⟩ := M.out.cells
  have hlen : d.keys.length ≤ 64 := by have := ok.few; have := ok.r1; omega
  have holen : d.order.length ≤ 64 := by rw [ok.len]; exact hlen
  have Ok := Lib.hid ok
  have H6 := Lib.hid h6
  have Hf := Lib.hid hf
  clear ok h6 hf
  have c1' : w.cell? ⟨g, 1, none⟩ = some (.slice A d.keys.length c) := by rw [← hkv]; exact c1
  have Hkv := Lib.hid hkv
  clear hkv c1
  go_upto_region 9 with (fail)
  have c1 : w.cell? ⟨g, 1, none⟩ = some kv := by rw [Hkv.out]; exact c1'
  clear c1'
  go_upto_region 10 with (at_builtin; refine app_one_at rfl (.tmp 41) (.tmp 43) 163 9 (.string ⟨#[]⟩) 16 rfl Tryz.underlying163 (by rfl) rfl (by omega) kv (d.keys.map .string) (.string key) (by rfl) (by rfl) rfl M.out.keys (by simp; omega) (d.keys.length + 1) (by simp) ?_; intro B1 C1 w1 o1 k1 l1; have cA : w1.cell? ⟨g, 1, none⟩ = some kv := k1.cell' c1 M.out.kg; have cB : w1.frozen? ⟨g, 1, none⟩ = false := (k1.frozen M.out.lt M.out.kg).trans (cf 1); have O1 := Lib.hid o1; have K1 := Lib.hid k1; have L1 := Lib.hid l1; clear o1 k1 l1)
  have M1 := Lib.hid (M.out.keysTo O1.out K1.out)
  have KS1 : Hid (Kept S w (w1.setCell ⟨g, 1, none⟩ (.slice B1 (d.keys.length + 1) C1))) := Lib.hid ((K1.out.mono (fun i _ e => hS.out.2.2.1 i e)).setCell _ _ (.inl hS.out.1))
  have L1' : Hid (∀ k, (Value.slice B1 (d.keys.length + 1) C1).ownBlock = some k → S k ∨ w.heap.size ≤ k) := Lib.hid (fun k hk => (L1.out k hk).imp (hS.out.2.2.1 k) id)
  clear cA cB O1 K1 L1 c1 c0 c2 c3 cf M
  generalize w1.setCell ⟨g, 1, none⟩ (.slice B1 (d.keys.length + 1) C1) = W1 at *
  clear w1
  obtain ⟨c0, c1, c2, c3, cf⟩ := M1.out.cells
  go_upto_region 14 with (at_builtin; refine app_one_at rfl (.tmp 51) (.tmp 53) 39 3 (.int .i64 0) 8 rfl Tryz.underlying39 (by rfl) rfl (by omega) ov (d.order.map intv) (.int .i64 (d.keys.length : Int)) (by rfl) (by rfl) rfl M1.out.order (by simp; omega) (d.order.length + 1) (by simp) ?_; intro B2 C2 w2 o2 k2 l2; have cA : w2.cell? ⟨g, 3, none⟩ = some ov := k2.cell' c3 M1.out.og; have cB : w2.frozen? ⟨g, 3, none⟩ = false := (k2.frozen M1.out.lt M1.out.og).trans (cf 3); have O1 := Lib.hid o2; have K1 := Lib.hid k2; have L1 := Lib.hid l2; clear o2 k2 l2)
  have M2 := Lib.hid (M1.out.orderTo O1.out K1.out)
  have KS2 : Hid (Kept S w (w2.setCell ⟨g, 3, none⟩ (.slice B2 (d.order.length + 1) C2))) := Lib.hid ((KS1.out.trans K1.out (fun i _ e => hS.out.2.2.2 i e)).setCell _ _ (.inl hS.out.1))
  have L2' : Hid (∀ k, (Value.slice B2 (d.order.length + 1) C2).ownBlock = some k → S k ∨ w.heap.size ≤ k) := Lib.hid (fun k hk => (L1.out k hk).imp (hS.out.2.2.2 k) (fun h => by have := KS1.out.size; omega))
  clear cA cB O1 K1 L1 c1 c0 c2 c3 cf M1 KS1
  generalize w2.setCell ⟨g, 3, none⟩ (.slice B2 (d.order.length + 1) C2) = W2 at *
  clear w2
  obtain ⟨c0, c1, c2, c3, cf⟩ := M2.out.cells
  obtain ⟨es2, clock2, hrun, fit2, hfind2, _⟩ := Rv.run_put (P := Tryz.prog) (t := 164) (k := 9) (e := 3) Tryz.underlying164 Tryz.underlying9 M2.out.slots M2.out.fit key (.int .i64 (d.keys.length : Int))
  have Hfind2 := Lib.hid hfind2
  have Fit2 := Lib.hid fit2
  clear hfind2 fit2
  go_wp2_with fail
  have M3 := Lib.hid (M2.out.map Fit2.out)
  have KS3 : Hid (Kept S w (Rv.setB W2 bm (.map es2 clock2))) := Lib.hid (KS2.out.setB _ _ (.inl hS.out.2.1))
  clear hrun c0 c1 c2 c3 cf M2 KS2
  generalize Rv.setB W2 bm (.map es2 clock2) = W3 at *
  clear W2
  have hord : d.order.map intv ++ [Value.int .i64 (d.keys.length : Int)] = (d.order ++ [d.keys.length]).map intv := by simp
  have hks : d.keys.map Value.string ++ [Value.string key] = (d.keys ++ [key]).map Value.string := by simp
  rw [hord, hks] at M3
  refine (used_low _ g bm d.room _ _ (d.order ++ [d.keys.length]) d.keys.length M3.out.row M3.out.order (by rw [List.length_append, Ok.out.len]; have := Ok.out.few; have := Ok.out.r1; simp; omega) (by simp)).mono ?_
  rintro e w4 ⟨rfl, ho, hk⟩
  have hno : key ∉ d.keys := find_none.1 Hf.out
  have ok' : DOk { d with keys := d.keys ++ [key], order := d.order ++ [d.keys.length] } := by
    refine ⟨Ok.out.r0, Ok.out.r1, by simp; omega, ?_, ?_, ?_⟩
    · rw [List.nodup_append]
      exact ⟨Ok.out.nodup, by simp, fun a ha b hb e => by rw [List.mem_singleton.1 hb] at e; exact hno (e ▸ ha)⟩
    · intro k hk
      rcases List.mem_append.1 hk with hk | hk
      · exact Ok.out.size k hk
      · rw [List.mem_singleton.1 hk]; exact h1'.out
    · show (d.order ++ [d.keys.length]).Perm (List.range (d.keys ++ [key]).length)
      rw [List.length_append, List.length_singleton, List.range_succ]
      exact Ok.out.perm.append_right _
  have M4 := M3.out.orderIn ho hk
  have hfin : DictAt w4 (fun k => S k ∨ w.heap.size ≤ k) g (Rv.Dict.used { d with keys := d.keys ++ [key], order := d.order ++ [d.keys.length] } d.keys.length) := by
    refine ⟨ok'.used (by simp), _, bm, _, es2, clock2, M4.row, M4.keys, M4.order, M4.slots, M4.fit, ?_, .inl hS.out.1, .inl hS.out.2.1, L1'.out, L2'.out⟩
    intro k
    rw [Hfind2.out k]
    by_cases hkk : k = key
    · subst hkk
      rw [if_pos rfl]
      show _ = Option.map intv (Rv.Dict.find _ k)
      rw [find_used, find_of (s := d.keys.length) (k := k) ok'.nodup (by simp)]
      rfl
    · rw [if_neg hkk, H6.out k]
      show _ = Option.map intv (Rv.Dict.find _ k)
      cases hfk : d.find k with
      | none =>
        symm
        rw [show Rv.Dict.find (Rv.Dict.used { d with keys := d.keys ++ [key], order := d.order ++ [d.keys.length] } d.keys.length) k = none from find_none.2 (by
          show k ∉ d.keys ++ [key]
          intro hm
          rcases List.mem_append.1 hm with hm | hm
          · exact find_none.1 hfk hm
          · exact hkk (List.mem_singleton.1 hm))]
      | some s =>
        rw [find_used, find_of (s := s) ok'.nodup (show (d.keys ++ [key])[s]? = some k by
          have := find_some hfk
          rw [List.getElem?_append_left (List.getElem?_eq_some_iff.1 this).1]; exact this)]
  have hkS : Kept S w w4 := KS3.out.trans hk (fun i hi e => (L2'.out i e).resolve_right (by omega))
  clear ho hk M4 M3 KS3
  go_wp2_with fail
  go_ret3
  unfold UseOk
  rw [Hu.out]
  exact ⟨rfl, _, hfin, hkS, fun k hk => hk⟩
end Go.Proofs.YtcmndglhileeoaaGreat

/- Walks of package dict: Use where all slots are taken. -/
set_option linter.unusedSimpArgs false
set_option linter.unusedVariables false
namespace Go.Proofs.YtcmndglhileeoaaGreat
open Go.RowKit

theorem add_zero_off (b j : Nat) : (⟨b, 0, none⟩ : Addr).add j = ⟨b, j, none⟩ := by unfold Addr.add; split <;> simp_all

theorem nodup_set {α : Type} : ∀ {l : List α} (_ : l.Nodup) {x : α} (_ : x ∉ l) (i : Nat), (l.set i x).Nodup
  | [], _, _, _, _ => by simp
  | a :: r, h, x, hx, 0 => by
    obtain ⟨h1, h2⟩ := List.nodup_cons.1 h
    exact List.nodup_cons.2 ⟨fun e => hx (List.mem_cons_of_mem _ e), h2⟩
  | a :: r, h, x, hx, i + 1 => by
    obtain ⟨h1, h2⟩ := List.nodup_cons.1 h
    refine List.nodup_cons.2 ⟨fun e => ?_, nodup_set h2 (fun e => hx (List.mem_cons_of_mem _ e)) i⟩
    rcases List.mem_or_eq_of_mem_set e with e | e
    · exact h1 e
    · exact hx (e ▸ List.mem_cons_self)

theorem full_ok {d : Rv.Dict} (ok : DOk d) {key : ByteArray} (h : key.size ≤ 64) (hf : key ∉ d.keys) (s : Nat) : DOk { d with keys := d.keys.set s key } :=
  ⟨ok.r0, ok.r1, by simpa using ok.few, nodup_set ok.nodup hf s, fun k hk => by
    rcases List.mem_or_eq_of_mem_set hk with e | e
    · exact ok.size k e
    · rw [e]; exact h, by simpa using ok.perm⟩

theorem full_find {d : Rv.Dict} (ok : DOk d) {key old : ByteArray} (h : key.size ≤ 64) (hf : key ∉ d.keys) {s : Nat} (hs : d.keys[s]? = some old) (k : ByteArray) :
    Rv.Dict.find { d with keys := d.keys.set s key } k = if k = key then some s else if k = old then none else d.find k := by
  have ok' := full_ok ok h hf s
  have hsl : s < d.keys.length := (List.getElem?_eq_some_iff.1 hs).1
  by_cases h1 : k = key
  · subst h1
    rw [if_pos rfl]
    exact find_of ok'.nodup (by show (d.keys.set s k)[s]? = _; rw [List.getElem?_set_self hsl])
  · rw [if_neg h1]
    by_cases h2 : k = old
    · subst h2
      rw [if_pos rfl]
      refine find_none.2 (fun hm => ?_)
      obtain ⟨i, hi⟩ := List.getElem?_of_mem hm
      have hi' : (d.keys.set s key)[i]? = some k := hi
      by_cases his : s = i
      · subst his
        rw [List.getElem?_set_self hsl] at hi'
        injection hi' with hi'
        exact h1 hi'.symm
      · rw [List.getElem?_set_ne his] at hi'
        have e1 := find_of ok.nodup hs
        rw [find_of ok.nodup hi'] at e1
        injection e1 with e1
        exact his e1.symm
    · rw [if_neg h2]
      cases hk : d.find k with
      | none =>
        refine find_none.2 (fun hm => ?_)
        rcases List.mem_or_eq_of_mem_set hm with e | e
        · exact find_none.1 hk e
        · exact h1 e
      | some i =>
        have hi := find_some hk
        refine find_of ok'.nodup ?_
        show (d.keys.set s key)[i]? = some k
        rw [List.getElem?_set_ne (fun e => by subst e; rw [hs] at hi; injection hi with hi; exact h2 hi.symm)]
        exact hi

theorem step_delete {P : Program} {ops : Array Oper} {o : Oper} {a : Act} {w w' : World} {K : Act → World → Prop} {Q : Exit → Act → World → Prop} {E : Prop} (hgd : o.guard = none) (m x : Operand) (T Kt : TypeId)
    (ho : o.op = .call { callee := .builtin .delete, args := #[m, x], argTypes := #[T, Kt] }) (b : Nat) (key : ByteArray) (hm : a.eval m = .map (some b)) (hx : a.eval x = .string key)
    (hrun : (Builtin.delete_ #[T, Kt] o.type #[.map (some b), .string key]).run P w = .ok (.tuple #[]) w') (h : K (a.put o.dst (.tuple #[])) w') :
    if Region.wanted o (yielded ops a.tmps) = true then Oper.wp P o a w K Q else E := by
  have hw : Region.wanted o (yielded ops a.tmps) = true := by simp [Region.wanted, hgd]
  rw [if_pos hw]
  unfold Oper.wp
  simp [execOp, ho, resolve, invoke, builtin, hm, hx, hrun, Result.andThen]
  exact h

theorem DictMid.drew {w : World} {g : Nat} {room : Int} {kv : Value} {bm : Nat} {ov : Value} {ks os : List Value} {es : Array MapEntry} {clock : Nat} (h : DictMid w g room kv bm ov ks os es clock) : DictMid w.drew g room kv bm ov ks os es clock :=
  ⟨h.row, h.keys, h.order, h.slots, h.fit⟩
theorem Kept.drew {S : Nat → Prop} {a b : World} (h : Kept S a b) : Kept S a b.drew := ⟨h.os, h.tape, h.output, h.size, h.block⟩

set_option maxHeartbeats 2000000 in
set_option maxRecDepth 100000 in
theorem use_full (w : World) (S : Nat → Prop) (g : Nat) (d : Rv.Dict) (key : ByteArray) (h : DictAt w S g d) (h0 : 1 ≤ key.size) (h1 : key.size ≤ 64) (hf : d.find key = none) (hroom : d.keys.length = d.room) :
    Calls Tryz.prog 42 #[.pointer (some ⟨g, 0, none⟩), .string key] w (UseOk w S g d key) := by
  have g0 : decide ((key.size : Int) < 1) = false := by simp; omega
  have g1 : decide ((64 : Int) < (key.size : Int)) = false := by simp; omega
  obtain ⟨n, hn⟩ : ∃ n, n = d.room := ⟨_, rfl⟩
  have g2 : decide (n < n) = false := by simp
  have hlr : lookRes (d.find key) = -1 := by rw [hf]; rfl
  have h1' := Lib.hid h1
  have H := Lib.hid h
  have Hlr := Lib.hid hlr
  obtain ⟨ok, kv, bm, ov, es, clock, q1, q2, q3, q4, q5, h6, h7, h8, h9, h10⟩ := h
  have hr1 := ok.r0
  have hr2 := ok.r1
  have hkl : (d.keys.map Value.string).length = n := by simp; omega
  have hol : (d.order.map intv).length = n := by simp [ok.len]; omega
  obtain ⟨s, hs⟩ : ∃ s, d.order[n - 1]? = some s := some_at (by rw [ok.len]; omega)
  have hsm : s ∈ d.order := List.mem_of_getElem? hs
  have hsl : s < d.keys.length := ok.mem.1 hsm
  obtain ⟨old, hold⟩ := some_at hsl
  have hu : d.use key = (Rv.Dict.used { d with keys := d.keys.set s key } s, s, false) := by
    unfold Rv.Dict.use; rw [hf]; simp only; rw [if_neg (by omega), ← hn]; simp [List.getD, hs]
  have Hu := Lib.hid hu
  rw [← hn] at q1
  have M : Hid (DictMid w g n kv bm ov (d.keys.map .string) (d.order.map intv) es clock) := Lib.hid ⟨q1, q2, q3, q4, q5⟩
  have hS : Hid (S g ∧ S bm ∧ (∀ k, kv.ownBlock = some k → S k) ∧ (∀ k, ov.ownBlock = some k → S k)) := Lib.hid ⟨h7, h8, h9, h10⟩
  obtain ⟨A, c, hkv, -, -, hrk⟩ := q2.shape
  obtain ⟨A', c', hov, -, -, hro⟩ := q3.shape
  rw [hkl] at hkv
  rw [hol] at hov
  subst hkv
  subst hov
  obtain ⟨kb, -, rfl, -⟩ := q2.row (by rw [hkl]; omega)
  obtain ⟨ob, -, rfl, -⟩ := q3.row (by rw [hol]; omega)
  have hrk1 : w.cell? ⟨kb, s, none⟩ = some (.string old) := by
    obtain ⟨ad, e, hc⟩ := hrk s (.string old) (by simp [hold])
    injection e with e
    subst e
    rw [← hc, add_zero_off]
  have hro1 : w.cell? ⟨ob, n - 1, none⟩ = some (intv s) := by
    obtain ⟨ad, e, hc⟩ := hro (n - 1) (intv s) (by simp [hs])
    injection e with e
    subst e
    rw [← hc, add_zero_off]
  have Ok := Lib.hid ok
  have H6 := Lib.hid h6
  have Hf := Lib.hid hf
  have Hold := Lib.hid hold
  have Hsm := Lib.hid hsm
  have Hroom := Lib.hid hroom
  have Hn := Lib.hid hn
  have hsn : s < n := by omega
  have hn64 : n ≤ 64 := by omega
  have hn1 : 1 ≤ n := by omega
  clear ok h6 hf hold hsm hroom q1 q2 q3 q4 q5 h7 h8 h9 h10 hkl hol hsl hu hlr hn hrk hro hs
  obtain ⟨c0, c1, c2, c3, cf⟩ := M.out.cells
  have hw1 : IntKind.i64.wrap ((n : Int) - 1) = (n : Int) - 1 := IntWalk.i64_in _ (by omega)
  have hw2 : (0 : Int) ≤ (n : Int) - 1 := by omega
  have hw2' : (1 : Int) ≤ (n : Int) := by omega
  have hw3 : (n : Int) - 1 < (n : Int) := by omega
  have hw4 : ((n : Int) - 1).toNat = n - 1 := by omega
  go_enter Tryz.func42, Tryz.ntmps42
  go_wp2_with fail
  refine (look_any _ S g d key H.out).mono ?_
  rintro e w1 ⟨rfl, rfl⟩
  rw [Hlr.out]
  go_upto_region 11 with (fail)
  go_quiet (fail)
  have M1 : Hid (DictMid (w.drewN nq) g n (.slice (some ⟨kb, 0, none⟩) n c) bm (.slice (some ⟨ob, 0, none⟩) n c') (d.keys.map .string) (d.order.map intv) es clock) := Lib.hid ⟨M.out.row, M.out.keys, M.out.order, M.out.slots, M.out.fit⟩
  have KS1 : Hid (Kept S w (w.drewN nq)) := Lib.hid ⟨rfl, rfl, rfl, Nat.le_refl _, fun _ _ _ => rfl⟩
  have hrk2 : (w.drewN nq).cell? ⟨kb, s, none⟩ = some (.string old) := hrk1
  generalize w.drewN nq = W1 at *
  clear c0 c1 c2 c3 cf hrk1 hro1 hw1 hw2 hw2' hw3 hw4 M
  have hsn' : (s : Int) < (n : Int) := by omega
  obtain ⟨c0, c1, c2, c3, cf⟩ := M1.out.cells
  obtain ⟨es1, hrun, fit1, hfind1, _, _⟩ := Rv.run_del (P := Tryz.prog) (w := W1.drew) (ty := 0) (t := 164) (k := 9) (e := 3) Tryz.underlying164 Tryz.underlying9 M1.out.slots M1.out.fit old
  have Hfind1 := Lib.hid hfind1
  have Fit1 := Lib.hid fit1
  have Hrun := Lib.hid hrun
  clear hfind1 fit1 hrun
  go_wp2_with fail
  go_region_law (refine step_delete rfl (.tmp 71) (.tmp 78) 164 9 rfl bm old (by rfl) (by rfl) Hrun.out ?_)
  all_goals
    have M2 := Lib.hid (M1.out.drew.map Fit1.out)
    have KS2 : Hid (Kept S w (Rv.setB W1.drew bm (.map es1 clock))) := Lib.hid (KS1.out.drew.setB _ _ (.inl hS.out.2.1))
    have hkb2 : (Rv.setB W1.drew bm (.map es1 clock)).cell? ⟨kb, s, none⟩ = some (.string old) := (World.cell?_of_block (w := W1) (Rv.setB_other (w := W1.drew) (fun e => M1.out.kb (by rw [← e]; rfl)))).trans hrk2
    have hfb2 : (Rv.setB W1.drew bm (.map es1 clock)).frozen? ⟨kb, s, none⟩ = false := by
      obtain ⟨cur, hc⟩ := own_type M2.out.keys (k := kb) rfl
      exact frozen_of hc s
    clear Hrun hrk2 c0 c1 c2 c3 cf M1 KS1
    generalize Rv.setB W1.drew bm (.map es1 clock) = W2 at *
    clear W1
    obtain ⟨c0, c1, c2, c3, cf⟩ := M2.out.cells
    go_upto_region 14 with (fail)
    have M3 := Lib.hid (M2.out.keySet (.string key) (b := kb) (i := s) rfl (by simp; rw [Hroom.out, ← Hn.out]; exact hsn))
    have KS3 : Hid (Kept S w (W2.setCell ⟨kb, s, none⟩ (.string key))) := Lib.hid (KS2.out.setCell _ _ (.inl (hS.out.2.2.1 kb rfl)))
    clear c0 c1 c2 c3 cf M2 KS2 hkb2 hfb2
    generalize W2.setCell ⟨kb, s, none⟩ (.string key) = W3 at *
    clear W2
    obtain ⟨c0, c1, c2, c3, cf⟩ := M3.out.cells
    obtain ⟨es2, clock2, hrun, fit2, hfind2, _⟩ := Rv.run_put (P := Tryz.prog) (t := 164) (k := 9) (e := 3) Tryz.underlying164 Tryz.underlying9 M3.out.slots M3.out.fit key (.int .i64 (s : Int))
    have Hfind2 := Lib.hid hfind2
    have Fit2 := Lib.hid fit2
    clear hfind2 fit2
    go_wp2_with fail
    have M4 := Lib.hid (M3.out.map Fit2.out)
    have KS4 : Hid (Kept S w (Rv.setB W3 bm (.map es2 clock2))) := Lib.hid (KS3.out.setB _ _ (.inl hS.out.2.1))
    clear hrun c0 c1 c2 c3 cf M3 KS3
    generalize Rv.setB W3 bm (.map es2 clock2) = W4 at *
    clear W3
    refine (used_low _ g bm n _ _ d.order s M4.out.row M4.out.order (by rw [Ok.out.len, Hroom.out, ← Hn.out]; exact hn64) Hsm.out).mono ?_
    rintro e w5 ⟨rfl, ho, hk⟩
    have hno : key ∉ d.keys := find_none.1 Hf.out
    have M5 := M4.out.orderIn ho hk
    have hfin : DictAt w5 S g (Rv.Dict.used { d with keys := d.keys.set s key } s) := by
      refine ⟨(full_ok Ok.out h1'.out hno s).used (by simp; rw [Hroom.out, ← Hn.out]; exact hsn), _, bm, _, es2, clock2, ?_, ?_, M5.order, M5.slots, M5.fit, ?_, hS.out.1, hS.out.2.1, hS.out.2.2.1, hS.out.2.2.2⟩
      · have := M5.row
        rw [Hn.out] at this ⊢
        exact this
      · have := M5.keys
        rw [show (d.keys.map Value.string).set s (.string key) = (d.keys.set s key).map Value.string by simp] at this
        exact this
      · intro k
        rw [Hfind2.out k, Hfind1.out k, H6.out k, find_used, full_find Ok.out h1'.out hno Hold.out k]
        by_cases e1 : k = key
        · rw [if_pos e1, if_pos e1]; rfl
        · rw [if_neg e1, if_neg e1]
          by_cases e2 : k = old
          · rw [if_pos e2, if_pos e2]; rfl
          · rw [if_neg e2, if_neg e2]
    have hkS : Kept S w w5 := KS4.out.trans hk (fun i hi e => hS.out.2.2.2 i e)
    clear ho hk M5 M4 KS4
    go_wp2_with fail
    go_ret3
    unfold UseOk
    rw [Hu.out]
    exact ⟨rfl, _, hfin, hkS, fun k hk => .inl hk⟩

theorem use_any (w : World) (S : Nat → Prop) (g : Nat) (d : Rv.Dict) (key : ByteArray) (h : DictAt w S g d) (h0 : 1 ≤ key.size) (h1 : key.size ≤ 64) :
    Calls Tryz.prog 42 #[.pointer (some ⟨g, 0, none⟩), .string key] w (UseOk w S g d key) := by
  cases hf : d.find key with
  | some s => exact use_had w S g d key s h h0 h1 hf
  | none =>
    by_cases hr : d.keys.length < d.room
    · exact use_new w S g d key h h0 h1 hf hr
    · exact use_full w S g d key h h0 h1 hf (by have := h.1.few; omega)
end Go.Proofs.YtcmndglhileeoaaGreat
