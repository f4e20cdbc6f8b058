/-
  The raw state of a Dispatcher, in plain Lean: what each function of packages wire, lease and dispatch computes. No program in sight.
-/
import Derived.Test.YtaejfobbogahmabGreatDoorMkBase
import Derived.Lib.RuneCount
import Derived.Lib.ValidU
set_option linter.unusedVariables false
set_option linter.unusedSimpArgs false
namespace Go.Proofs.YtaejfobbogahmabGreatDoor
open Go

abbrev Bytes := List UInt8
/-- A string of these bytes. -/
def bs (l : Bytes) : ByteArray := ⟨l.toArray⟩

/-! ### Numbers, sums, lines -/
def decF : Nat → Nat → Bytes
  | 0, n => [UInt8.ofNat (48 + n % 10)]
  | f + 1, n => if n < 10 then [UInt8.ofNat (48 + n)] else decF f (n / 10) ++ [UInt8.ofNat (48 + n % 10)]
/-- A number in decimal (0 to 10^19). -/
def dec (n : Nat) : Bytes := decF 20 n
/-- An int in decimal. -/
def decI (n : Int) : Bytes := if n < 0 then 45 :: dec n.natAbs else dec n.toNat

/-- One byte more in a sum of four: place i. -/
def sumStep (s : UInt8 × UInt8 × UInt8 × UInt8) (i : Nat) (c : UInt8) : UInt8 × UInt8 × UInt8 × UInt8 :=
  match i % 4 with
  | 0 => (s.1 * 3 + c, s.2.1, s.2.2.1, s.2.2.2)
  | 1 => (s.1, s.2.1 * 3 + c, s.2.2.1, s.2.2.2)
  | 2 => (s.1, s.2.1, s.2.2.1 * 3 + c, s.2.2.2)
  | _ => (s.1, s.2.1, s.2.2.1, s.2.2.2 * 3 + c)
def sumFrom : Bytes → Nat → UInt8 × UInt8 × UInt8 × UInt8 → UInt8 × UInt8 × UInt8 × UInt8
  | [], _, s => s
  | c :: l, i, s => sumFrom l (i + 1) (sumStep s i c)
def sumOf (l : Bytes) : UInt8 × UInt8 × UInt8 × UInt8 := sumFrom l 0 (0, 0, 0, 0)
/-- A digit of base 16. -/
def hexD (n : UInt8) : UInt8 := if n < 10 then 48 + n else 87 + n
def hex2 (c : UInt8) : Bytes := [hexD (c / 16), hexD (c % 16)]
def sumHex (l : Bytes) : Bytes := hex2 (sumOf l).1 ++ hex2 (sumOf l).2.1 ++ hex2 (sumOf l).2.2.1 ++ hex2 (sumOf l).2.2.2
/-- A text with its sum. -/
def sealL (l : Bytes) : Bytes := l ++ 32 :: sumHex l
/-- The text of a line; none: it is too long, or its sum is wrong. -/
def opened (l : Bytes) : Option Bytes :=
  if l.length < 9 ∨ 80 < l.length then none
  else if sealL (l.take (l.length - 9)) = l then some (l.take (l.length - 9)) else none

/-- The bytes l, cut at each byte c. Never empty. -/
def cut (c : UInt8) : Bytes → List Bytes
  | [] => [[]]
  | x :: l => if x = c then [] :: cut c l else match cut c l with | [] => [[x]] | a :: r => (x :: a) :: r

/-- The runes of a string, as the model's own decoder reads them. -/
def runesFrom (s : ByteArray) : Nat → Nat → List Nat
  | 0, _ => []
  | f + 1, pos => if pos < s.size then (Utf8.decode s pos).1 :: runesFrom s f (pos + (Utf8.decode s pos).2) else []
def isTenantLetter (c : Nat) : Bool := decide (97 ≤ c) && decide (c ≤ 122) || decide (945 ≤ c) && decide (c ≤ 969)
def isTextLetter (c : Nat) : Bool := decide (32 < c) && decide (c ≤ 126) || decide (161 ≤ c) && decide (c ≤ 65535)
/-- One to so many letters of a kind. -/
def lettersR (l : Bytes) (most : Nat) (p : Nat → Bool) : Bool := Lib.validD l && !l.isEmpty && decide (Lib.runeCount (bs l) ≤ most) && (runesFrom (bs l) l.length 0).all p
def isTenant (l : Bytes) : Bool := lettersR l 6 isTenantLetter
def isText (l : Bytes) : Bool := lettersR l 12 isTextLetter
def digits : Bytes → Nat → Option Nat
  | [], n => some n
  | c :: l, n => if 48 ≤ c ∧ c ≤ 57 then digits l (10 * n + (c.toNat - 48)) else none
/-- A number of one to six digits, without noughts ahead. -/
def number (l : Bytes) : Option Nat :=
  if l.length < 1 ∨ 6 < l.length then none
  else if 1 < l.length ∧ l.head? = some 48 then none else digits l 0

/-! ### Messages -/
structure Msg where
  kind : Bytes
  id : Int
  att : Int
  tenant : Bytes
  text : Bytes

def kSub : Bytes := [115, 117, 98]
def kCan : Bytes := [99, 97, 110]
def kPull : Bytes := [112, 117, 108, 108]
def kBeat : Bytes := [98, 101, 97, 116]
def kDone : Bytes := [100, 111, 110, 101]
def kFail : Bytes := [102, 97, 105, 108]
def kDrain : Bytes := [100, 114, 97, 105, 110]

/-- The message of a text; none: it is none. -/
def readMsg (l : Bytes) : Option Msg :=
  match cut 32 l with
  | [k] => if k = kPull ∨ k = kBeat ∨ k = kDrain then some ⟨k, 0, 0, [], []⟩ else none
  | [k, a] => if k = kCan then (number a).map fun i => ⟨k, i, 0, [], []⟩ else none
  | [k, a, b] => if k = kFail then (number a).bind fun i => (number b).map fun n => ⟨k, i, n, [], []⟩ else none
  | [k, a, b, c] =>
    if k = kDone then (number a).bind fun i => (number b).bind fun n => if isText c then some ⟨k, i, n, [], c⟩ else none
    else if k = kSub then (number a).bind fun i => if isTenant b && isText c then some ⟨k, i, 0, b, c⟩ else none
    else none
  | _ => none

/-! ### The raw state -/
structure Cfg where
  lease : Int
  retries : Int
  cap : Int
  bound : Int
  hedge : Int
structure Req where
  conn : Int
  tenant : ByteArray
  text : ByteArray
  attempts : Int
  left : Int
  hedged : Bool
  queued : Bool
structure Cn where
  rest : Bytes
  drains : Bool
  gone : Bool
structure Att where
  id : Int
  att : Int
  conn : Int
  since : Int
  till : Int
  seq : Int
structure Raw where
  cfg : Cfg
  now : Int
  reqs : List (Int × Req)
  conns : List (Int × Cn)
  queues : List (ByteArray × List Int)
  runs : List (ByteArray × Int)
  ring : List ByteArray
  waiting : List Int
  atts : List Att
  seq : Int
  out : List (Int × Bytes)

def cfgOk (c : Cfg) : Bool := 1 ≤ c.lease && c.lease ≤ 20 && 0 ≤ c.retries && c.retries ≤ 5 && 1 ≤ c.cap && c.cap ≤ 5 && 1 ≤ c.bound && c.bound ≤ 8 && 0 ≤ c.hedge && c.hedge ≤ 20
def rNew (c : Cfg) : Raw := ⟨c, 0, [], [], [], [], [], [], [], 0, []⟩

def words : List Bytes → Bytes
  | [] => []
  | [a] => a
  | a :: l => a ++ 32 :: words l

def rSay (r : Raw) (c : Int) (ws : List Bytes) : Raw := { r with out := r.out ++ [(c, sealL (words ws))] }
def rConn (r : Raw) (c : Int) : Raw := if (aget r.conns c).isSome then r else { r with conns := aset r.conns c ⟨[], false, false⟩ }
def without {α : Type} [DecidableEq α] (l : List α) (x : α) : List α := l.filter fun y => !decide (y = x)
def rOf (r : Raw) (id : Int) : List Att := r.atts.filter fun a => decide (a.id = id)
def rHeld (r : Raw) (c : Int) : List Att := r.atts.filter fun a => decide (a.conn = c)
def qOf (r : Raw) (t : ByteArray) : List Int := (aget r.queues t).getD []
def runsOf (r : Raw) (t : ByteArray) : Int := (aget r.runs t).getD 0

def rQueue (r : Raw) (id : Int) (first : Bool) : Raw :=
  match aget r.reqs id with
  | none => r
  | some q =>
    { r with reqs := aset r.reqs id { q with queued := true },
             ring := if qOf r q.tenant = [] then r.ring ++ [q.tenant] else r.ring,
             queues := aset r.queues q.tenant (if first then id :: qOf r q.tenant else qOf r q.tenant ++ [id]) }
def rUnqueue (r : Raw) (id : Int) : Raw :=
  match aget r.reqs id with
  | none => r
  | some q =>
    if !q.queued then r else
    let l := without (qOf r q.tenant) id
    if l = [] then { r with reqs := aset r.reqs id { q with queued := false }, queues := adel r.queues q.tenant, ring := without r.ring q.tenant }
    else { r with reqs := aset r.reqs id { q with queued := false }, queues := aset r.queues q.tenant l }
def rBye (r : Raw) (c : Int) : Raw :=
  match aget r.conns c with
  | none => r
  | some x => if x.drains && !x.gone && (rHeld r c).isEmpty then rSay { r with conns := aset r.conns c { x with gone := true } } c [[98, 121, 101]] else r
def rRuns (r : Raw) (t : ByteArray) (n : Int) : Raw := { r with runs := aset r.runs t n }
def rEnd (r : Raw) (a : Att) : Raw :=
  match aget r.reqs a.id with
  | none => r
  | some q =>
    let r1 := { r with atts := r.atts.filter fun b => !decide (b.seq = a.seq), runs := aset r.runs q.tenant (runsOf r q.tenant - 1) }
    let r2 := if runsOf r1 q.tenant = 0 then { r1 with runs := adel r1.runs q.tenant } else r1
    rBye r2 a.conn
def wStop : Bytes := [115, 116, 111, 112]
def wRun : Bytes := [114, 117, 110]
def wErr : Bytes := [101, 114, 114]
def wVal : Bytes := [118, 97, 108]
def wAcc : Bytes := [97, 99, 99]
def wRej : Bytes := [114, 101, 106]
def wDup : Bytes := [100, 117, 112]
def wFull : Bytes := [102, 117, 108, 108]
def wNone : Bytes := [110, 111, 110, 101]
def wGone : Bytes := [103, 111, 110, 101]
def wBad : Bytes := [98, 97, 100]
def rStop (r : Raw) (a : Att) : Raw := rEnd (rSay r a.conn [wStop, decI a.id, decI a.att]) a
def rShut (r : Raw) (id : Int) : Raw :=
  let r1 := rUnqueue ((rOf r id).foldl rStop r) id
  { r1 with reqs := adel r1.reqs id }
def rLeft (r : Raw) (id : Int) : Raw :=
  match aget r.reqs id with
  | none => r
  | some q => { r with reqs := aset r.reqs id { q with left := q.left - 1 } }
def rAgain (r : Raw) (id : Int) (counts : Bool) : Raw :=
  match aget r.reqs id with
  | none => r
  | some q =>
    if q.queued || !(rOf r id).isEmpty then r
    else if counts then (if q.left = 0 then rShut (rSay r q.conn [wErr, decI id]) id else rQueue (rLeft r id) id true)
    else rQueue r id true
/-- The first tenant in the ring that may have one attempt more. -/
def turnOf (r : Raw) : Option ByteArray := r.ring.find? fun t => decide (runsOf r t < r.cfg.cap)
def rServe1 (r : Raw) : Raw :=
  match r.waiting, turnOf r with
  | c :: ws, some t =>
    match qOf r t with
    | [] => r
    | id :: _ =>
      match aget r.reqs id with
      | none => r
      | some q =>
        let r1 := rUnqueue { r with waiting := ws } id
        let r2 := if qOf r1 t = [] then r1 else { r1 with ring := without r1.ring t ++ [t] }
        let n := q.attempts + 1
        let r3 := { r2 with reqs := match aget r2.reqs id with | none => r2.reqs | some q2 => aset r2.reqs id { q2 with attempts := n },
                            runs := aset r2.runs t (runsOf r2 t + 1), seq := r2.seq + 1,
                            atts := r2.atts ++ [⟨id, n, c, r2.now, r2.now + r2.cfg.lease, r2.seq + 1⟩] }
        rSay r3 c [wRun, decI id, decI n, t.data.toList, q.text.data.toList]
  | _, _ => r
def rServeN : Nat → Raw → Raw
  | 0, r => r
  | n + 1, r => if r.waiting = [] ∨ turnOf r = none then r else rServeN n (rServe1 r)
def rServe (r : Raw) : Raw := rServeN r.waiting.length r
def rSubmit (r : Raw) (c : Int) (m : Msg) : Raw :=
  if (aget r.reqs m.id).isSome then rSay r c [wRej, decI m.id, wDup]
  else if r.cfg.bound ≤ (qOf r (bs m.tenant)).length then rSay r c [wRej, decI m.id, wFull]
  else rQueue (rSay { r with reqs := aset r.reqs m.id ⟨c, bs m.tenant, bs m.text, 0, r.cfg.retries, false, false⟩ } c [wAcc, decI m.id]) m.id false
def rBeat (r : Raw) (c : Int) : Raw := { r with atts := r.atts.map fun a => if a.conn = c then { a with till := r.now + r.cfg.lease } else a }
def rAtt (r : Raw) (id att c : Int) : Option Att := (rOf r id).find? fun a => decide (a.att = att) && decide (a.conn = c)
def rPull (r : Raw) (c : Int) : Raw :=
  let r1 := rConn r c
  match aget r1.conns c with
  | none => r1
  | some x => if !x.drains && !r1.waiting.contains c then { r1 with waiting := r1.waiting ++ [c] } else r1
def rDrain (r : Raw) (c : Int) : Raw :=
  let r1 := rConn r c
  match aget r1.conns c with
  | none => r1
  | some x => rBye { r1 with conns := aset r1.conns c { x with drains := true }, waiting := without r1.waiting c } c
def rHandle (r : Raw) (c : Int) (m : Msg) : Raw :=
  if m.kind = kSub then rSubmit r c m
  else if m.kind = kCan then
    match aget r.reqs m.id with
    | some q => if q.conn = c then rShut (rSay r c [wGone, decI m.id]) m.id else rSay r c [wNone, decI m.id]
    | none => rSay r c [wNone, decI m.id]
  else if m.kind = kPull then rPull r c
  else if m.kind = kBeat then rBeat r c
  else if m.kind = kDone then
    match rAtt r m.id m.att c, aget r.reqs m.id with
    | some a, some q => rShut (rEnd (rSay r q.conn [wVal, decI m.id, m.text]) a) m.id
    | _, _ => r
  else if m.kind = kFail then
    match rAtt r m.id m.att c with
    | some a => rAgain (rEnd r a) m.id true
    | none => r
  else if m.kind = kDrain then rDrain r c
  else r
def rLine (r : Raw) (c : Int) (line : Bytes) : Raw :=
  match opened line with
  | none => rSay r c [wBad]
  | some t => match readMsg t with
    | none => rSay r c [wBad]
    | some m => rServe (rHandle r c m)
/-- The lines that are ended by more bytes, and what is left (of a line that is too long as much as tells so). -/
def cutLines : Bytes → Bytes → List Bytes × Bytes
  | rest, [] => ([], rest)
  | rest, x :: l => if x = 10 then (let p := cutLines [] l; (rest :: p.1, p.2)) else cutLines (if rest.length ≤ 80 then rest ++ [x] else rest) l
def rRest (r : Raw) (c : Int) (b : Bytes) : Raw :=
  match aget r.conns c with
  | none => r
  | some x => { r with conns := aset r.conns c { x with rest := b } }
def restOf (r : Raw) (c : Int) : Bytes := match aget r.conns c with | none => [] | some x => x.rest
def rTold (r : Raw) : Raw := { r with out := [] }
/-- Feed: the state behind it, before what was said is handed out. -/
def rFeed (r : Raw) (c : Int) (b : Bytes) : Raw :=
  let r1 := rConn r c
  let p := cutLines (restOf r1 c) b
  p.1.foldl (fun r l => rLine r c l) (rRest r1 c p.2)
/-- The attempt whose lease ends first, of several that which began first, if it has ended by now. -/
def better (a b : Att) : Bool := decide (a.till < b.till) || (decide (a.till = b.till) && decide (a.seq < b.seq))
def least : List Att → Option Att
  | [] => none
  | a :: l => match least l with | none => some a | some b => if better b a then some b else some a
def rDue (r : Raw) : Option Att := match least r.atts with | none => none | some a => if a.till ≤ r.now then some a else none
def rDueAll : Nat → Raw → Raw
  | 0, r => r
  | n + 1, r => match rDue r with | none => r | some a => rDueAll n (rAgain (rStop r a) a.id true)
def rHedge1 (r : Raw) (a : Att) : Raw :=
  match aget r.reqs a.id with
  | none => r
  | some q => if !q.hedged && !q.queued && (rOf r a.id).length == 1 then rQueue { r with reqs := aset r.reqs a.id { q with hedged := true } } a.id false else r
def rHedge (r : Raw) : Raw := if 0 < r.cfg.hedge then (r.atts.filter fun a => decide (r.cfg.hedge ≤ r.now - a.since)).foldl rHedge1 r else r
def rTick (r : Raw) : Raw :=
  let r1 := { r with now := r.now + 1 }
  rServe (rHedge (rDueAll r1.atts.length r1))
def insSorted (x : Int) : List Int → List Int
  | [] => [x]
  | y :: l => if x ≤ y then x :: y :: l else y :: insSorted x l
def sortI : List Int → List Int
  | [] => []
  | x :: l => insSorted x (sortI l)
def rCloseReq (c : Int) (r : Raw) (id : Int) : Raw := rShut (((rOf r id).filter fun a => decide (a.conn = c)).foldl rEnd r) id
def rCloseAtt (r : Raw) (a : Att) : Raw := rAgain (rEnd r a) a.id false
def rClose (r : Raw) (c : Int) : Raw :=
  let r1 := { r with waiting := without r.waiting c, conns := adel r.conns c }
  let ids := sortI ((r1.reqs.filter fun p => decide (p.2.conn = c)).map Prod.fst)
  let r2 := ids.foldl (rCloseReq c) r1
  rServe ((rHeld r2 c).foldl rCloseAtt r2)
def sumLens (l : List (ByteArray × List Int)) : Nat := (l.map fun p => p.2.length).sum
/-- Now, Queued, Running, Waiting. -/
def rLook (r : Raw) : Int × Nat × Nat × Nat := (r.now, sumLens r.queues, r.atts.length, r.waiting.length)

end Go.Proofs.YtaejfobbogahmabGreatDoor
