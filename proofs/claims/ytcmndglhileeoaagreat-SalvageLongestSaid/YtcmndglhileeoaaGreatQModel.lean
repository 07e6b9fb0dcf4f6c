/- The plain model of the program's layers 1 to 11 and 14 (Scan): plain Lean functions over numbers and lists, no Go and no memory. No conditions. -/
namespace Rv

abbrev Bs := List UInt8

structure Pol where
  kind : Int
  cap : Int
  num : Int
  den : Int
  width : Int
  count : Int
  keys : Int
  slots : Int
  every : Int
  seg : Int
  deriving DecidableEq, Inhabited

structure Rec where
  tick : Int
  key : ByteArray
  cost : Int
  verdict : Int
  deriving DecidableEq, Inhabited

structure Fault where
  code : Int
  at_ : Int
  deriving DecidableEq, Inhabited

structure Seal where
  re : Int
  im : Int
  deriving DecidableEq, Inhabited

structure Link where
  number : Int
  bytes : Int
  sl : Seal
  deriving DecidableEq, Inhabited

def Pol.zero : Pol := ⟨0, 0, 0, 0, 0, 0, 0, 0, 0, 0⟩
def Rec.zero : Rec := ⟨0, ByteArray.empty, 0, 0⟩
def Fault.zero : Fault := ⟨0, 0⟩
def Seal.zero : Seal := ⟨0, 0⟩
def Link.zero : Link := ⟨0, 0, .zero⟩

/-! ### bits -/
def maxNumber : Int := 4611686018427387903

def mayN (n : Int) : Bool := decide (0 ≤ n) && decide (n ≤ maxNumber)

def numN (n : Nat) : Bs := if h : n < 128 then [UInt8.ofNat n] else UInt8.ofNat (n % 128 + 128) :: numN (n / 128)
termination_by n
decreasing_by omega

/-- bits.Number's bytes; none, where it has an error. -/
def numB (n : Int) : Bs := if mayN n then numN n.toNat else []

inductive RB where
  | ok (n len : Nat)
  | bad (e : Int)
  deriving DecidableEq, Inhabited

/-- bits.Read, of what stands from its offset on: i bytes were read, their digits make n. -/
def rdGo : Nat → Nat → Bs → RB
  | _, _, [] => .bad 10
  | i, n, c :: r =>
    let n' := n + c.toNat % 128 * 128 ^ i
    if (c.toNat = 0 ∧ 0 < i) ∨ (i = 8 ∧ (128 ≤ c.toNat ∨ 4611686018427387903 < n')) then .bad 11
    else if c.toNat < 128 then .ok n' (i + 1)
    else rdGo (i + 1) n' r

def rdB (b : Bs) : RB := rdGo 0 0 b

def zig (n : Int) : Int × Int := if n < -2305843009213693952 ∨ n > 2305843009213693951 then (0, 1) else if n < 0 then (-2 * n - 1, 0) else (2 * n, 0)
def zag (u : Int) : Int × Int := if mayN u = false then (0, 1) else if u % 2 = 1 then (-(u / 2) - 1, 0) else (u / 2, 0)

/-! ### seal -/
def prime : Int := 16777199
def Seal.right (s : Seal) : Bool := decide (0 ≤ s.re) && decide (s.re < 16777199) && decide (0 ≤ s.im) && decide (s.im < 16777199)
def Seal.start : Seal := ⟨1, 2⟩
def Seal.step (s : Seal) (x : UInt8) : Seal := ⟨(s.re * 69069 - s.im * 362437 + ((x.toNat : Int) + 1)) % 16777199, (s.re * 362437 + s.im * 69069) % 16777199⟩
def Seal.adds (s : Seal) (b : Bs) : Seal := b.foldl Seal.step s
def Seal.add (s : Seal) (b : Bs) : Seal × Int := if s.right then (s.adds b, 0) else (.zero, 20)
def b3 (n : Int) : Bs := [UInt8.ofNat (n % 256).toNat, UInt8.ofNat (n / 256 % 256).toNat, UInt8.ofNat (n / 65536 % 256).toNat]
def Seal.bytes (s : Seal) : Bs := if s.right then b3 s.re ++ b3 s.im else []
def n3 (a b c : UInt8) : Int := (a.toNat : Int) + b.toNat * 256 + c.toNat * 65536
/-- seal.Read, of what stands from its offset on. -/
def Seal.read : Bs → Except Int Seal
  | a :: b :: c :: d :: e :: f :: _ => let s : Seal := ⟨n3 a b c, n3 d e f⟩; if s.right then .ok s else .error 20
  | _ => .error 10

/-! ### chain -/
def Link.first : Link := ⟨0, 0, .start⟩
def Link.may (l : Link) : Bool := decide (0 ≤ l.number) && decide (l.number ≤ 10000) && decide (0 ≤ l.bytes) && decide (l.bytes ≤ 4194304) && l.sl.right
def Link.next (l : Link) (b : Bs) : Link × Int :=
  if l.may = false then (.zero, 30) else if (b.length : Int) > 4194304 then (.zero, 2) else if l.number = 10000 then (.zero, 3)
  else (⟨l.number + 1, b.length, l.sl.adds b⟩, 0)
def Link.enc (l : Link) : Bs := if l.may then numB l.number ++ numB l.bytes ++ l.sl.bytes else []

/-! ### policy -/
def inB (n lo hi : Int) : Bool := decide (lo ≤ n) && decide (n ≤ hi)
/-- The eight fields, each with its bounds, in their order. -/
def Pol.fields (p : Pol) : List (Int × Int × Int) :=
  [(p.kind, 1, 2), (p.cap, 1, 1048576)] ++ (if p.kind = 1 then [(p.num, 1, 65536), (p.den, 1, 65536)] else [(p.width, 1, 1048576), (p.count, 1, 32)]) ++
  [(p.keys, 1, 1000), (p.slots, 1, 64), (p.every, 0, 1000), (p.seg, 1, 1000)]
def Pol.ok (p : Pol) : Bool :=
  (decide (p.kind = 1) && decide (p.width = 0) && decide (p.count = 0) || decide (p.kind = 2) && decide (p.num = 0) && decide (p.den = 0)) && p.fields.all fun f => inB f.1 f.2.1 f.2.2
def Pol.right (p : Pol) : Int := if p.ok then 0 else 40
def Pol.body (p : Pol) : Bs := [82, 69, 69, 76] ++ (p.fields.map fun f => numB f.1).flatten
def Pol.header (p : Pol) : Bs := if p.ok then p.body ++ (Seal.start.adds p.body).bytes else []

def Pol.of (kind : Int) (l : List Int) : Pol :=
  match l with
  | [cap, a, b, keys, slots, every, seg] => if kind = 1 then ⟨kind, cap, a, b, 0, 0, keys, slots, every, seg⟩ else ⟨kind, cap, 0, 0, a, b, keys, slots, every, seg⟩
  | _ => .zero

/-- k numbers from an offset on: they, and where they end; or the fault. -/
def rdMany (b : Bs) : Nat → Nat → Except Fault (List Int × Nat)
  | 0, at_ => .ok ([], at_)
  | k + 1, at_ => match rdB (b.drop at_) with
    | .bad e => .error ⟨e, at_⟩
    | .ok n len => match rdMany b k (at_ + len) with
      | .error f => .error f
      | .ok (l, to) => .ok ((n : Int) :: l, to)

def Pol.read (b : Bs) : Except Fault (Pol × Nat) :=
  if b.take 4 ≠ [82, 69, 69, 76] then .error ⟨41, 0⟩ else
  match rdB (b.drop 4) with
  | .bad e => .error ⟨e, 4⟩
  | .ok k len =>
    if k ≠ 1 ∧ k ≠ 2 then .error ⟨40, 4⟩ else
    match rdMany b 7 (4 + len) with
    | .error f => .error f
    | .ok (l, at_) =>
      let p := Pol.of k l
      if p.ok = false then .error ⟨40, 4⟩ else
      match Seal.read (b.drop at_) with
      | .error e => .error ⟨e, at_⟩
      | .ok s => if s = Seal.start.adds (b.take at_) then .ok (p, at_ + 6) else .error ⟨41, at_⟩

/-! ### dict -/
structure Dict where
  room : Nat
  keys : List ByteArray
  order : List Nat
  deriving DecidableEq, Inhabited

def Dict.new (slots : Nat) : Dict := ⟨slots, [], []⟩
def Dict.find (d : Dict) (key : ByteArray) : Option Nat := if d.keys.idxOf key < d.keys.length then some (d.keys.idxOf key) else none
/-- The slot is the one used last now. -/
def Dict.used (d : Dict) (slot : Nat) : Dict := { d with order := slot :: d.order.erase slot }
def keyOk (key : ByteArray) : Bool := decide (1 ≤ key.size) && decide (key.size ≤ 64)
/-- dict.Use of a key that may be: the dictionary, the slot, and whether the key had it. -/
def Dict.use (d : Dict) (key : ByteArray) : Dict × Nat × Bool :=
  match d.find key with
  | some s => (d.used s, s, true)
  | none =>
    if d.keys.length < d.room then
      (Dict.used { d with keys := d.keys ++ [key], order := d.order ++ [d.keys.length] } d.keys.length, d.keys.length, false)
    else
      let s := d.order.getD (d.room - 1) 0
      (Dict.used { d with keys := d.keys.set s key } s, s, false)
def Dict.touch (d : Dict) (slot : Nat) : Option (Dict × ByteArray) := if slot < d.keys.length then some (d.used slot, d.keys.getD slot ByteArray.empty) else none

/-! ### record -/
structure Coder where
  d : Dict
  tick : Int
  cost : Int
  deriving DecidableEq, Inhabited

def tickOk (n : Int) : Bool := inB n 0 1099511627776
def costOk (n : Int) : Bool := inB n 1 1048576
def verdictOk (n : Int) : Bool := inB n 0 2
def Rec.right (r : Rec) : Int :=
  if tickOk r.tick = false then 60 else if keyOk r.key = false then 61 else if costOk r.cost = false then 62 else if verdictOk r.verdict = false then 63 else 0
def bytesOf (s : ByteArray) : Bs := s.data.toList
def Coder.new (p : Pol) : Coder := ⟨Dict.new p.slots.toNat, 0, 0⟩
/-- record.Put of a record that may be, and does not fall. -/
def Coder.put (c : Coder) (r : Rec) : Coder × Bs :=
  let u := c.d.use r.key
  (⟨u.1, r.tick, r.cost⟩, numB (4 * (r.tick - c.tick) + r.verdict) ++ numB (zig (r.cost - c.cost)).1 ++
    (if u.2.2 then numB (1 + (u.2.1 : Int)) else numB 0 ++ numB r.key.size ++ bytesOf r.key))
def Coder.putE (c : Coder) (r : Rec) : Int := if r.right ≠ 0 then r.right else if r.tick < c.tick then 60 else 0

/-- record.key at an offset: the dictionary, the key, where it ends; or the fault. -/
def Dict.get (d : Dict) (b : Bs) (at_ : Nat) : Except Fault (Dict × ByteArray × Nat) :=
  match rdB (b.drop at_) with
  | .bad e => .error ⟨e, at_⟩
  | .ok n len =>
    if 0 < n then match d.touch (n - 1) with
      | none => .error ⟨64, at_⟩
      | some (d', key) => .ok (d', key, at_ + len)
    else
      match rdB (b.drop (at_ + len)) with
      | .bad e => .error ⟨e, at_ + len⟩
      | .ok k len2 =>
        if k < 1 ∨ 64 < k then .error ⟨61, at_ + len⟩
        else if b.length < at_ + len + len2 + k then .error ⟨10, at_ + len + len2⟩
        else
          let key : ByteArray := ⟨((b.drop (at_ + len + len2)).take k).toArray⟩
          if (d.find key).isSome then .error ⟨64, at_ + len + len2⟩
          else .ok ((d.use key).1, key, at_ + len + len2 + k)

/-- record.Get at an offset of the bytes. -/
def Coder.get (c : Coder) (b : Bs) (at_ : Nat) : Except Fault (Coder × Rec × Nat) :=
  match rdB (b.drop at_) with
  | .bad e => .error ⟨e, at_⟩
  | .ok n len =>
    if n % 4 = 3 then .error ⟨63, at_⟩
    else if tickOk (c.tick + (n / 4 : Nat)) = false then .error ⟨60, at_⟩
    else match rdB (b.drop (at_ + len)) with
      | .bad e => .error ⟨e, at_ + len⟩
      | .ok z len2 =>
        let cost := c.cost + (zag z).1
        if costOk cost = false then .error ⟨62, at_ + len⟩
        else match c.d.get b (at_ + len + len2) with
          | .error f => .error f
          | .ok (d', key, to) => .ok (⟨d', c.tick + (n / 4 : Nat), cost⟩, ⟨c.tick + (n / 4 : Nat), key, cost, (n % 4 : Nat)⟩, to)

/-! ### bucket, window -/
def clipN (most n : Int) : Int := min (max n 0) most
def decay (p : Pol) (owed ticks : Int) : Int := clipN maxNumber (clipN maxNumber owed - clipN 1099511627776 ticks * p.num)
def takeB (p : Pol) (owed cost : Int) : Int := clipN maxNumber (clipN maxNumber owed + cost * p.den)
def mayB (p : Pol) (owed cost : Int) : Bool := costOk cost && decide (clipN maxNumber owed + cost * p.den ≤ p.cap * p.den)

structure Sums where
  grid : Int
  l : List Int
  deriving DecidableEq, Inhabited

def gridOf (p : Pol) (tick : Int) : Int := clipN 1099511627776 tick / p.width
def freshW (p : Pol) (tick : Int) : Sums := ⟨gridOf p tick, List.replicate p.count.toNat 0⟩
def wrongN (n : Int) : Bool := decide (n < 0) || decide (n > 1099511627776)
def countsW (p : Pol) (s : Sums) : Sums :=
  if s.grid < 0 ∨ s.grid > gridOf p 1099511627776 ∨ (s.l.length : Int) ≠ p.count ∨ s.l.any wrongN then freshW p 0 else s
def moveW (p : Pol) (s : Sums) (tick : Int) : Sums :=
  let s := countsW p s
  let to := gridOf p tick
  if to ≤ s.grid then s
  else
    let gone := to - s.grid
    if gone < p.count then ⟨to, s.l.drop gone.toNat ++ List.replicate gone.toNat 0⟩ else freshW p tick
def totalW (s : Sums) : Int := if s.l.length > 32 then 0 else (s.l.map fun x => clipN 1099511627776 x).foldl (· + ·) 0
def mayW (p : Pol) (s : Sums) (cost : Int) : Bool := costOk cost && decide (totalW (countsW p s) + cost ≤ p.cap)
def takeW (p : Pol) (s : Sums) (cost : Int) : Sums :=
  let s := countsW p s
  let last := (p.count - 1).toNat
  ⟨s.grid, s.l.set last (min (s.l.getD last 0 + cost) 1099511627776)⟩

/-! ### ledger -/
inductive Debt where
  | level (n : Int)
  | sums (s : Sums)
  deriving DecidableEq, Inhabited

def Debt.later (p : Pol) (from_ to : Int) : Debt → Debt
  | .level n => .level (decay p n (to - from_))
  | .sums s => .sums (moveW p s to)
def Debt.may (p : Pol) (cost : Int) : Debt → Bool
  | .level n => mayB p n cost
  | .sums s => mayW p s cost
def Debt.take (p : Pol) (cost : Int) : Debt → Debt
  | .level n => .level (takeB p n cost)
  | .sums s => .sums (takeW p s cost)
def Debt.numbers : Debt → List Int
  | .level n => [n]
  | .sums s => s.l
def Debt.owes (d : Debt) : Bool := d.numbers.any fun n => n != 0

def keyLt (a b : ByteArray) : Bool := decide (a.data.toList < b.data.toList)

/-- What is owed, by key: in the order of keys. -/
abbrev Owed := List (ByteArray × Debt)
def Owed.get? : Owed → ByteArray → Option Debt
  | [], _ => none
  | (k, d) :: l, key => if k = key then some d else Owed.get? l key
def Owed.put : Owed → ByteArray → Debt → Owed
  | [], key, x => [(key, x)]
  | (k, d) :: l, key, x => if k = key then (key, x) :: l else if keyLt key k then (key, x) :: (k, d) :: l else (k, d) :: Owed.put l key x

structure Ledger where
  p : Pol
  tick : Int
  of : Owed
  deriving DecidableEq, Inhabited

def Ledger.new (p : Pol) : Ledger := ⟨p, 0, []⟩
def Ledger.moveE (l : Ledger) (tick : Int) : Int := if tick < l.tick ∨ tick > 1099511627776 then 60 else 0
def Ledger.move (l : Ledger) (tick : Int) : Ledger :=
  if l.moveE tick ≠ 0 then l else { l with tick := tick, of := (l.of.map fun e => (e.1, e.2.later l.p l.tick tick)).filter fun e => e.2.owes }
def Ledger.none_ (l : Ledger) : Debt := if l.p.kind = 1 then .level 0 else .sums (freshW l.p l.tick)
def Ledger.debt (l : Ledger) (key : ByteArray) : Debt := (l.of.get? key).getD l.none_
def Ledger.chargeE (key : ByteArray) (cost : Int) : Int := if keyOk key = false then 61 else if costOk cost = false then 62 else 0
def Ledger.charge (l : Ledger) (key : ByteArray) (cost : Int) : Ledger :=
  if Ledger.chargeE key cost ≠ 0 then l else { l with of := l.of.put key ((l.debt key).take l.p cost) }
def Ledger.bytes (l : Ledger) : Bs :=
  numB l.of.length ++ (l.of.map fun e => numB e.1.size ++ bytesOf e.1 ++ (e.2.numbers.map numB).flatten).flatten

/-! ### tape -/
structure Maker where
  p : Pol
  coder : Coder
  owed : Ledger
  link : Link
  segment : Bs
  records : Nat
  size : Nat
  deriving DecidableEq, Inhabited

def Maker.begun (p : Pol) : Maker := ⟨p, Coder.new p, Ledger.new p, { Link.first with sl := Seal.start.adds p.header }, [], 0, p.header.length⟩

structure Step where
  coder : Coder
  owed : Option Ledger
  link : Link
  piece : Bs
  check : Bs
  trailer : Bs
  ends : Bool
  deriving DecidableEq, Inhabited

def applyL (l : Ledger) (r : Rec) : Ledger :=
  let l := l.move r.tick
  if r.verdict = 1 then l.charge r.key r.cost else l

def Maker.adds (m : Maker) (r : Rec) (coder : Coder) (piece : Bs) : Step × Bool :=
  let k : Int := (m.records : Int) + 1
  let owed : Option Ledger := if 0 < m.p.every ∧ k % m.p.every = 0 then some (applyL m.owed r) else none
  let check : Bs := match owed with | some l => l.bytes | none => []
  let size := m.size + piece.length + check.length
  if size > 4194304 then (⟨coder, owed, m.link, piece, check, [], false⟩, false)
  else if k % m.p.seg = 0 then
    let link := (m.link.next (m.segment ++ piece ++ check)).1
    (⟨coder, owed, link, piece, check, link.enc, true⟩, decide (size + link.enc.length ≤ 4194304))
  else (⟨coder, owed, m.link, piece, check, [], false⟩, decide (size ≤ 4194304))

def Maker.done (m : Maker) (r : Rec) (s : Step) : Maker :=
  ⟨m.p, s.coder, s.owed.getD (applyL m.owed r), s.link, if s.ends then [] else m.segment ++ s.piece ++ s.check, m.records + 1,
    m.size + (s.piece.length + s.check.length + s.trailer.length)⟩

/-- tape.Put: the error; the writer behind it; the pieces. -/
def Maker.put (m : Maker) (r : Rec) : Except Int (Maker × List Bs) :=
  if m.coder.putE r ≠ 0 then .error (m.coder.putE r) else
  let cp := m.coder.put r
  let s := m.adds r cp.1 cp.2
  if s.2 = false ∨ m.records = 10000 then .error 3
  else .ok (m.done r s.1, [s.1.piece] ++ (if s.1.check = [] then [] else [s.1.check]) ++ (if s.1.ends then [s.1.trailer] else []))

def Maker.puts (m : Maker) (out : Bs) : Nat → List Rec → Except (Int × Int) Bs
  | _, [] => .ok out
  | i, r :: l => match m.put r with
    | .error e => .error (e, i)
    | .ok (m', pieces) => m'.puts (out ++ pieces.flatten) (i + 1) l

/-- tape.Encode: the tape; or the error and the record's number. -/
def encode (p : Pol) (l : List Rec) : Except (Int × Int) Bs := if p.ok = false then .error (40, 0) else (Maker.begun p).puts p.header 0 l

/-- do these bytes stand at an offset? -/
def standsAt (b : Bs) (at_ : Nat) (want : Bs) : Bool := want.isPrefixOf (b.drop at_)

inductive NextR where
  | none_
  | fault (f : Fault)
  | some (r : Rec) (m : Maker)
  deriving DecidableEq, Inhabited

def Maker.next (m : Maker) (b : Bs) : NextR :=
  if m.size = b.length then .none_
  else if m.records = 10000 then .fault ⟨2, m.size⟩
  else match m.coder.get b m.size with
    | .error f => .fault f
    | .ok (c, x, to) =>
      let s := (m.adds x c ((b.drop m.size).take (to - m.size))).1
      if standsAt b to s.check = false then .fault ⟨110, to⟩
      else if standsAt b (to + s.check.length) s.trailer = false then .fault ⟨111, (to + s.check.length : Nat)⟩
      else .some x (m.done x s)

def openR (b : Bs) : Except Fault Maker :=
  if b.length > 4194304 then .error ⟨2, -1⟩ else
  match Pol.read b with
  | .error f => .error f
  | .ok (p, _) => .ok (Maker.begun p)

/-- The records that Next tells, one behind another; where it stands then, and the fault that it tells there. -/
def Maker.reads (b : Bs) : Nat → Maker → List Rec × Maker × Option Fault
  | 0, m => ([], m, none)
  | k + 1, m => match m.next b with
    | .none_ => ([], m, none)
    | .fault f => ([], m, some f)
    | .some x m' => let r := Maker.reads b k m'; (x :: r.1, r.2)

def decode (b : Bs) : Except Fault (Pol × List Rec) :=
  match openR b with
  | .error f => .error f
  | .ok m => match Maker.reads b 10001 m with
    | (l, _, none) => .ok (m.p, l)
    | (_, _, some f) => .error f

/-- salvage.scanned -/
def scanned (b : Bs) : Except Fault (Pol × List Rec × Nat) :=
  match Pol.read b with
  | .error f => .error f
  | .ok (p, _) =>
    let r := Maker.reads (b.take 4194304) 10001 (Maker.begun p)
    .ok (p, r.1, r.2.1.size)

end Rv
