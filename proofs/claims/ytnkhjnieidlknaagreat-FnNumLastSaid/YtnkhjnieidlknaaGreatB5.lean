/- The model: what two ends are, and what happens to them, in plain Lean. · Sums: one turned byte is told; what is read of a frame's bytes is the frame. Plain lists and numbers. · Pieces: each is ok; one behind the other they are the message. Plain lists and numbers. · Two ends that are ok stay ok, whatever happens; the program and its reference do the same. Plain lists and numbers. -/
import Derived.Below
namespace Go.Proofs.YtnkhjnieidlknaaGreat
set_option linter.unusedVariables false
set_option linter.unusedSimpArgs false
structure Cfg where
  mode : Int
  win : Int
  mps : Int
  mtu : Int
  tri : Int
  deriving DecidableEq
structure Part where
  seg : Int
  len : Int
  data : List Int
  deriving DecidableEq
structure Join where
  len : Int
  got : List Int
  deriving DecidableEq
structure Frm where
  kind : Int
  seq : Int
  ack : Int
  poll : Bool
  fin : Bool
  say : Int
  seg : Int
  len : Int
  data : List Int
  deriving DecidableEq
structure Tx where
  next : Int
  acked : Int
  flight : List Part
  sent : Int
  queue : List Part
  asks : Bool
  tries : Int
  held : Bool
  count : Int
  dead : Bool
  deriving DecidableEq
structure Rx where
  expect : Int
  count : Int
  join : Join
  again : Bool
  busy : Bool
  dead : Bool
  deriving DecidableEq
structure CTx where
  hav : Int
  queue : List Part
  granted : Int
  sent : Int
  dead : Bool
  deriving DecidableEq
structure CRx where
  out : Int
  join : Join
  dead : Bool
  deriving DecidableEq
structure End where
  tx : Tx
  rx : Rx
  ctx : CTx
  crx : CRx
  put : List (List Int)
  got : List (List Int)
  deriving DecidableEq
structure Msg where
  bent : Bool
  bytes : List Int
  deriving DecidableEq
structure Wld where
  cfg : Cfg
  ends : List End
  net : List (List Msg)
  link : Int
  deriving DecidableEq
structure Evt where
  kind : Int
  who : Int
  at_ : Int
  v : Int
  data : List Int
  deriving DecidableEq
def cfg0 : Cfg := ⟨0, 0, 0, 0, 0⟩
def join0 : Join := ⟨0, []⟩
def part0 : Part := ⟨0, 0, []⟩
def frm0 : Frm := ⟨0, 0, 0, false, false, 0, 0, 0, []⟩
def tx0 : Tx := ⟨0, 0, [], 0, [], false, 0, false, 0, false⟩
def rx0 : Rx := ⟨0, 0, join0, false, false, false⟩
def ctx0 : CTx := ⟨0, [], 0, 0, false⟩
def crx0 : CRx := ⟨0, join0, false⟩
def end0 : End := ⟨tx0, rx0, ctx0, crx0, [], []⟩
def wld0 : Wld := ⟨cfg0, [], [], 0⟩
/-! sums -/
def crcHalf (x : Nat) : Nat := if x % 2 = 1 then (x / 2) ^^^ 40961 else x / 2
def crcN : Nat → Nat → Nat
  | 0, x => x
  | k + 1, x => crcN k (crcHalf x)
def crcStep (s b : Nat) : Nat := crcN 8 (s ^^^ b)
def crcOf (l : List Int) : Nat := l.foldl (fun s b => crcStep s b.toNat) 0
def crcPut (l : List Int) : List Int := l ++ [((crcOf l % 256 : Nat) : Int), ((crcOf l / 256 : Nat) : Int)]
def crcCut (l : List Int) : Option (List Int) := if 2 ≤ l.length ∧ crcPut (l.take (l.length - 2)) = l then some (l.take (l.length - 2)) else none
/-! frames -/
def inB (n lo hi : Int) : Bool := decide (lo ≤ n) && decide (n ≤ hi)
def isNum (n : Int) : Bool := inB n 0 7
def pieceOk (seg len : Int) (n : Nat) : Bool :=
  if seg = 0 then decide (n ≤ 8) && decide (len = n) else if seg = 1 then inB n 1 8 && inB len (n + 1) 24 else if seg = 2 ∨ seg = 3 then inB n 1 8 && decide (len = 0) else false
def frmOk (f : Frm) : Bool :=
  if f.kind = 1 then isNum f.seq && isNum f.ack && !f.poll && decide (f.say = 0) && pieceOk f.seg f.len f.data.length
  else if f.kind = 2 then decide (f.seq = 0) && isNum f.ack && !(f.poll && f.fin) && inB f.say 0 2 && decide (f.seg = 0) && decide (f.len = 0) && decide (f.data = [])
  else if f.kind = 3 then decide (f.seq = 0) && decide (f.ack = 0) && !f.poll && !f.fin && decide (f.say = 0) && pieceOk f.seg f.len f.data.length
  else if f.kind = 4 then decide (f.seq = 0) && decide (f.ack = 0) && !f.poll && !f.fin && decide (f.say = 0) && decide (f.seg = 0) && inB f.len 1 255 && decide (f.data = [])
  else false
def bit (b : Bool) : Int := if b then 1 else 0
def frmHead (f : Frm) : List Int := [f.kind, f.seq * 16 + f.ack, bit f.poll + 2 * bit f.fin + 4 * f.say + 16 * f.seg, f.len, f.data.length]
def frmBytes (f : Frm) : List Int := if frmOk f then crcPut (frmHead f ++ f.data) else []
def frmOf (b : List Int) : Frm := ⟨b.getD 0 0, b.getD 1 0 / 16, b.getD 1 0 % 16, decide (b.getD 2 0 % 2 = 1), decide (b.getD 2 0 / 2 % 2 = 1), b.getD 2 0 / 4 % 4, b.getD 2 0 / 16, b.getD 3 0, b.drop 5⟩
def frmRead (l : List Int) : Option Frm := match crcCut l with
  | some b => if 5 ≤ b.length ∧ frmBytes (frmOf b) = l then some (frmOf b) else none
  | none => none
/-! numbers -/
def far (a b : Int) : Int := (b - a + 8) % 8
def numFar (a b : Int) : Int := if isNum a && isNum b then far a b else -1
def numNext (n : Int) : Int := Int.tmod (n + 1) 8
def numOf (n : Int) : Int := if n < 0 then -1 else n % 8
/-! pieces -/
def segAt (sdu : List Int) (most at_ : Nat) : Part :=
  ⟨if at_ = 0 then 1 else if at_ + most ≥ sdu.length then 3 else 2, if at_ = 0 then sdu.length else 0, (sdu.drop at_).take most⟩
def segGo (sdu : List Int) (most : Nat) : Nat → Nat → List Part
  | 0, _ => []
  | k + 1, at_ => if at_ < sdu.length then segAt sdu most at_ :: segGo sdu most k (at_ + most) else []
def segCut (sdu : List Int) (most : Int) : List Part :=
  if sdu.length > 24 ∨ most < 1 ∨ most > 8 then [] else if (sdu.length : Int) ≤ most then [⟨0, sdu.length, sdu⟩] else segGo sdu most.toNat sdu.length 0
def partOk (p : Part) : Bool := pieceOk p.seg p.len p.data.length
def joinOk (j : Join) : Bool := (decide (j.len = 0) && decide (j.got = [])) || (inB j.len 2 24 && inB j.got.length 1 (j.len - 1))
def segPut (j : Join) (p : Part) : Join × List Int × Int :=
  if p.seg = 0 ∧ j.len = 0 then (join0, j.got ++ p.data, 2)
  else if p.seg = 1 ∧ j.len = 0 then (⟨p.len, j.got ++ p.data⟩, [], 1)
  else if p.seg = 2 ∧ j.len > 0 ∧ ((j.got ++ p.data).length : Int) < j.len then (⟨j.len, j.got ++ p.data⟩, [], 1)
  else if p.seg = 3 ∧ j.len > 0 ∧ ((j.got ++ p.data).length : Int) = j.len then (join0, j.got ++ p.data, 2)
  else (join0, [], 3)
/-! what both use -/
def cfgOk (c : Cfg) : Bool := inB c.mode 1 2 && inB c.win 1 4 && inB c.mps 1 8 && inB c.mtu 1 24 && inB c.tri 1 5
/-! who sends by numbers -/
def partsOk (c : Cfg) (l : List Part) : Bool := l.all fun p => partOk p && decide ((p.data.length : Int) ≤ c.mps)
def txOk (c : Cfg) (t : Tx) : Bool :=
  cfgOk c && isNum t.acked && isNum t.next && decide (far t.acked t.next = t.flight.length) && decide ((t.flight.length : Int) ≤ c.win) && inB t.sent 0 t.flight.length && decide (t.queue.length ≤ 24) &&
    inB t.tries 0 c.tri && inB t.count 0 9999 && decide (numOf t.count = t.acked) && partsOk c t.flight && partsOk c t.queue
def txPut (c : Cfg) (t : Tx) (sdu : List Int) : Tx × Bool :=
  if t.dead = true ∨ (sdu.length : Int) > c.mtu then (t, false)
  else if t.queue.length + (segCut sdu c.mps).length > 24 then (t, false)
  else ({ t with queue := t.queue ++ segCut sdu c.mps }, true)
def dataFrm (p : Part) (seq ack : Int) : Frm := ⟨1, seq, ack, false, false, 0, p.seg, p.len, p.data⟩
def txTop (g : Bool) (t : Tx) : Bool := if g then decide (t.count + t.flight.length ≥ 9999) else decide (t.count + t.flight.length = 9999)
def txStops (g : Bool) (c : Cfg) (t : Tx) : Bool :=
  t.dead || t.asks || t.held || (decide (t.sent = t.flight.length) && (decide ((t.flight.length : Int) = c.win) || decide (t.queue = []) || txTop g t))
def txMove (t : Tx) : Tx := if t.sent = t.flight.length then { t with flight := t.flight ++ t.queue.take 1, queue := t.queue.drop 1, next := numNext t.next } else t
def txSend (g : Bool) (c : Cfg) (t : Tx) (ack : Int) : Tx × Option Frm :=
  if txStops g c t then (t, none)
  else ({ txMove t with sent := t.sent + 1 }, some (dataFrm ((txMove t).flight.getD t.sent.toNat part0) ((t.acked + t.sent) % 8) ack))
def txHear (t : Tx) (f : Frm) : Tx :=
  if t.dead = true then t
  else if far t.acked f.ack > t.flight.length then { t with dead := true }
  else
    let n := far t.acked f.ack
    let ans := f.fin && t.asks
    { t with
      flight := t.flight.drop n.toNat
      acked := f.ack
      count := t.count + n
      held := if f.kind = 2 then decide (f.say = 2) else t.held
      asks := t.asks && !f.fin
      tries := if ans then 0 else t.tries
      sent := if ans then 0 else if f.kind = 2 ∧ f.say = 1 ∧ t.asks = false then 0 else max 0 (t.sent - n) }
def goWait (b : Bool) : Int := if b then 2 else 0
def sayFrm (ack : Int) (poll fin : Bool) (say : Int) : Frm := ⟨2, 0, ack, poll, fin, say, 0, 0, []⟩
def txTick (c : Cfg) (t : Tx) (ack : Int) (busy : Bool) : Tx × Option Frm :=
  if t.dead = true ∨ (t.flight = [] ∧ t.held = false ∧ t.asks = false) then (t, none)
  else if t.tries = c.tri then ({ t with dead := true }, none)
  else ({ t with asks := true, tries := t.tries + 1 }, some (sayFrm ack true false (goWait busy)))
/-! who hears by numbers -/
def rxOk (r : Rx) : Bool := isNum r.expect && inB r.count 0 9999 && decide (numOf r.count = r.expect) && joinOk r.join
def rxTake (c : Cfg) (r : Rx) (f : Frm) : Rx × List (List Int) :=
  if f.len > c.mtu ∨ (f.data.length : Int) > c.mps ∨ r.count = 9999 then ({ r with dead := true }, [])
  else
    let q := segPut r.join ⟨f.seg, f.len, f.data⟩
    if q.2.2 = 3 then ({ r with join := q.1, dead := true }, [])
    else ({ r with join := q.1, expect := numNext r.expect, count := r.count + 1, again := false }, if q.2.2 = 2 then [q.2.1] else [])
def rxHear (c : Cfg) (r : Rx) (f : Frm) : Rx × List (List Int) × List Frm :=
  if r.dead = true then (r, [], [])
  else if f.kind = 2 then (if f.poll = true then ({ r with again := false }, [], [sayFrm r.expect false true (goWait r.busy)]) else (r, [], []))
  else if r.busy = true then (r, [], [sayFrm r.expect false false 2])
  else if f.seq = r.expect then ((rxTake c r f).1, (rxTake c r f).2, [])
  else if far r.expect f.seq < c.win ∧ r.again = false then ({ r with again := true }, [], [sayFrm r.expect false false 1])
  else (r, [], [])
def rxBusy (r : Rx) (busy : Bool) : Rx × List Frm :=
  if r.busy = busy ∨ r.dead = true then (r, []) else ({ r with busy := busy, again := false }, [sayFrm r.expect false false (goWait busy)])
def rxAck (r : Rx) : Frm := sayFrm r.expect false false (goWait r.busy)
/-! for credits -/
def ctxOk (c : Cfg) (t : CTx) : Bool := cfgOk c && inB t.hav 0 255 && inB t.granted 0 9999 && inB t.sent 0 9999 && decide (t.hav = t.granted - t.sent) && decide (t.queue.length ≤ 24) && partsOk c t.queue
def crxOk (r : CRx) : Bool := inB r.out 0 255 && joinOk r.join
def crdPut (c : Cfg) (t : CTx) (sdu : List Int) : CTx × Bool :=
  if t.dead = true ∨ (sdu.length : Int) > c.mtu then (t, false)
  else if t.queue.length + (segCut sdu c.mps).length > 24 then (t, false)
  else ({ t with queue := t.queue ++ segCut sdu c.mps }, true)
def crdSend (t : CTx) : CTx × Option Frm :=
  match t.queue with
  | [] => (t, none)
  | p :: q => if t.dead = true ∨ t.hav = 0 ∨ t.sent = 9999 then (t, none) else ({ t with queue := q, hav := t.hav - 1, sent := t.sent + 1 }, some ⟨3, 0, 0, false, false, 0, p.seg, p.len, p.data⟩)
def crdTake (t : CTx) (n : Int) : CTx :=
  if t.dead = true then t else if t.hav + n > 255 ∨ t.granted + n > 9999 then { t with dead := true } else { t with hav := t.hav + n, granted := t.granted + n }
def crdGrant (r : CRx) : CRx × Option Frm :=
  if r.dead = true ∨ r.out ≥ 6 then (r, none) else ({ r with out := 6 }, some ⟨4, 0, 0, false, false, 0, 0, 6 - r.out, []⟩)
def crdHear (c : Cfg) (r : CRx) (f : Frm) : CRx × List (List Int) :=
  if r.dead = true then (r, [])
  else if r.out = 0 ∨ f.len > c.mtu ∨ (f.data.length : Int) > c.mps then ({ r with dead := true }, [])
  else
    let q := segPut r.join ⟨f.seg, f.len, f.data⟩
    if q.2.2 = 3 then (⟨r.out - 1, q.1, true⟩, []) else (⟨r.out - 1, q.1, r.dead⟩, if q.2.2 = 2 then [q.2.1] else [])
/-! two ends -/
def sdusOk (l : List (List Int)) : Bool := decide (l.length ≤ 60) && l.all fun b => decide (b.length ≤ 24)
def endOk (c : Cfg) (e : End) : Bool := txOk c e.tx && rxOk e.rx && ctxOk c e.ctx && crxOk e.crx && sdusOk e.put && sdusOk e.got
def netOk (l : List Msg) : Bool := decide (l.length ≤ 30) && l.all fun m => decide (m.bytes.length ≤ 15)
def wldOk (w : Wld) : Bool := cfgOk w.cfg && decide (w.ends.length = 2) && decide (w.net.length = 2) && inB w.link 0 1 && w.ends.all (endOk w.cfg) && w.net.all netOk
def wldNew (c : Cfg) : Wld := if cfgOk c then ⟨c, [end0, end0], [[], []], 0⟩ else wld0
def endAt (w : Wld) (i : Nat) : End := w.ends.getD i end0
def netAt (w : Wld) (i : Nat) : List Msg := w.net.getD i []
def setEnd (w : Wld) (i : Nat) (e : End) : Wld := { w with ends := w.ends.set i e }
def setNet (w : Wld) (i : Nat) (l : List Msg) : Wld := { w with net := w.net.set i l }
def say1 (w : Wld) (who : Nat) (f : Frm) : Wld := if (netAt w (1 - who)).length < 30 then setNet w (1 - who) (netAt w (1 - who) ++ [⟨false, frmBytes f⟩]) else w
def says (w : Wld) (who : Nat) (l : List Frm) : Wld := l.foldl (fun w f => say1 w who f) w
def sayO (w : Wld) (who : Nat) : Option Frm → Wld
  | none => w
  | some f => say1 w who f
def tell (got : List (List Int)) (l : List (List Int)) : List (List Int) := l.foldl (fun g b => if g.length < 60 then g ++ [b] else g) got
def byNum (g : Bool) (w : Wld) (who : Nat) (e : Evt) : Wld :=
  let x := endAt w who
  if e.kind = 1 then
    if x.put.length < 60 then (let q := txPut w.cfg x.tx e.data; setEnd w who { x with tx := q.1, put := if q.2 then x.put ++ [e.data] else x.put }) else w
  else if e.kind = 2 then
    if (netAt w (1 - who)).length < 30 then (let q := txSend g w.cfg x.tx x.rx.expect; sayO (setEnd w who { x with tx := q.1 }) who q.2) else w
  else if e.kind = 3 then (let q := txTick w.cfg x.tx x.rx.expect x.rx.busy; sayO (setEnd w who { x with tx := q.1 }) who q.2)
  else if e.kind = 4 then (let q := rxBusy x.rx (decide (e.v = 1)); says (setEnd w who { x with rx := q.1 }) who q.2)
  else if e.kind = 5 then (if x.rx.dead = true then w else say1 w who (rxAck x.rx))
  else w
def forCrd (w : Wld) (who : Nat) (e : Evt) : Wld :=
  let x := endAt w who
  if e.kind = 1 then
    if x.put.length < 60 then (let q := crdPut w.cfg x.ctx e.data; setEnd w who { x with ctx := q.1, put := if q.2 then x.put ++ [e.data] else x.put }) else w
  else if e.kind = 2 then
    if (netAt w (1 - who)).length < 30 then (let q := crdSend x.ctx; sayO (setEnd w who { x with ctx := q.1 }) who q.2) else w
  else if e.kind = 6 then
    if (netAt w (1 - who)).length < 30 then (let q := crdGrant x.crx; sayO (setEnd w who { x with crx := q.1 }) who q.2) else w
  else w
def hearF (w : Wld) (who : Nat) (f : Frm) : Wld :=
  let x := endAt w who
  if w.cfg.mode = 1 then
    if f.kind = 1 ∨ f.kind = 2 then
      let q := rxHear w.cfg x.rx f
      says (setEnd w who { x with tx := txHear x.tx f, rx := q.1, got := tell x.got q.2.1 }) who q.2.2
    else w
  else if f.kind = 4 then setEnd w who { x with ctx := crdTake x.ctx f.len }
  else if f.kind = 3 then (let q := crdHear w.cfg x.crx f; setEnd w who { x with crx := q.1, got := tell x.got q.2 })
  else w
def hear1 (w : Wld) (who : Nat) : Wld := match netAt w who with
  | [] => w
  | m :: l => match frmRead m.bytes with
    | none => setNet w who l
    | some f => hearF (setNet w who l) who f
def bendM (m : Msg) (at_ v : Int) : Msg :=
  if 0 ≤ at_ ∧ at_ < m.bytes.length ∧ 1 ≤ v ∧ v ≤ 255 ∧ m.bent = false then ⟨true, m.bytes.set at_.toNat ((((m.bytes.getD at_.toNat 0).toNat ^^^ v.toNat : Nat)) : Int)⟩ else m
def step (g : Bool) (w : Wld) (e : Evt) : Wld :=
  if e.who < 0 ∨ e.who > 1 then w
  else
    let who := e.who.toNat
    if e.kind = 7 then hear1 w who
    else if e.kind = 8 then setNet w who ((netAt w who).drop 1)
    else if e.kind = 9 then (match netAt w who with
      | [] => w
      | m :: l => setNet w who (bendM m e.at_ e.v :: l))
    else if e.kind = 10 then { w with net := [[], []], link := 1 - w.link }
    else if e.kind = 11 then (if (netAt w who).length < 30 ∧ e.data.length ≤ 15 then setNet w who (netAt w who ++ [⟨false, e.data⟩]) else w)
    else if w.cfg.mode = 1 then byNum g w who e
    else forCrd w who e
def run (g : Bool) (w : Wld) (l : List Evt) : Wld := l.foldl (step g) w
def evt (kind who : Int) : Evt := ⟨kind, who, 0, 0, []⟩
def hearN (g : Bool) (w : Wld) (who : Int) : Nat → Wld
  | 0 => w
  | k + 1 => hearN g (step g w (evt 7 who)) who k
def hearAll (g : Bool) (w : Wld) (who : Int) : Wld := hearN g w who (netAt w who.toNat).length
def heard (g : Bool) (w : Wld) : Wld := hearAll g (hearAll g (hearAll g (hearAll g w 0) 1) 0) 1
def sendN (g : Bool) (w : Wld) (who : Int) : Nat → Wld
  | 0 => w
  | k + 1 => sendN g (step g w (evt 2 who)) who k
def half (g : Bool) (w : Wld) (who : Int) : Wld := heard g (step g (heard g (sendN g w who 10)) (evt 5 (1 - who)))
def both (g : Bool) (w : Wld) (kind : Int) : Wld := heard g (step g (heard g (step g w (evt kind 0))) (evt kind 1))
def round (g : Bool) (w : Wld) : Wld := half g (half g (both g (both g (both g w 4) 6) 3) 0) 1
def rounds (g : Bool) (w : Wld) : Nat → Wld
  | 0 => w
  | k + 1 => rounds g (round g w) k
def endDead (e : End) : Bool := e.tx.dead || e.rx.dead || e.ctx.dead || e.crx.dead
theorem xor_cancel {a b : Nat} (c : Nat) (h : a ^^^ c = b ^^^ c) : a = b := by
  have h' := congrArg (fun x => x ^^^ c) h
  simpa [Nat.xor_assoc] using h'
theorem crcHalf_lt {x : Nat} (h : x < 65536) : crcHalf x < 65536 := by
  unfold crcHalf
  split
  · exact Nat.xor_lt_two_pow (n := 16) (by omega) (by omega)
  · omega
theorem xor_big {y : Nat} (h : y < 32768) : 32768 ≤ y ^^^ 40961 := by
  have h0 : Nat.testBit y 15 = false := Nat.testBit_lt_two_pow (by omega)
  have h1 : Nat.testBit (y ^^^ 40961) 15 = true := by rw [Nat.testBit_xor, h0]; decide
  exact Nat.ge_two_pow_of_testBit h1
theorem crcHalf_inj {x y : Nat} (hx : x < 65536) (hy : y < 65536) (h : crcHalf x = crcHalf y) : x = y := by
  unfold crcHalf at h
  by_cases h1 : x % 2 = 1
  · by_cases h2 : y % 2 = 1
    · rw [if_pos h1, if_pos h2] at h
      have := xor_cancel _ h
      omega
    · rw [if_pos h1, if_neg h2] at h
      have := xor_big (y := x / 2) (by omega)
      omega
  · by_cases h2 : y % 2 = 1
    · rw [if_neg h1, if_pos h2] at h
      have := xor_big (y := y / 2) (by omega)
      omega
    · rw [if_neg h1, if_neg h2] at h
      omega
theorem crcN_lt (k : Nat) {x : Nat} (h : x < 65536) : crcN k x < 65536 := by
  induction k generalizing x with
  | zero => exact h
  | succ k ih => exact ih (crcHalf_lt h)
theorem crcN_inj (k : Nat) {x y : Nat} (hx : x < 65536) (hy : y < 65536) (h : crcN k x = crcN k y) : x = y := by
  induction k generalizing x y with
  | zero => exact h
  | succ k ih => exact crcHalf_inj hx hy (ih (crcHalf_lt hx) (crcHalf_lt hy) h)
theorem crcStep_lt {s b : Nat} (hs : s < 65536) (hb : b < 256) : crcStep s b < 65536 :=
  crcN_lt 8 (Nat.xor_lt_two_pow (n := 16) (by omega) (by omega))
theorem crcStep_inj {s t b : Nat} (hs : s < 65536) (ht : t < 65536) (hb : b < 256) (h : crcStep s b = crcStep t b) : s = t :=
  xor_cancel b (crcN_inj 8 (Nat.xor_lt_two_pow (n := 16) (by omega) (by omega)) (Nat.xor_lt_two_pow (n := 16) (by omega) (by omega)) h)
theorem crcStep_byte {s b c : Nat} (hs : s < 65536) (hb : b < 256) (hc : c < 256) (h : crcStep s b = crcStep s c) : b = c := by
  have h1 := crcN_inj 8 (Nat.xor_lt_two_pow (n := 16) (by omega) (by omega)) (Nat.xor_lt_two_pow (n := 16) (by omega) (by omega)) h
  rw [Nat.xor_comm s b, Nat.xor_comm s c] at h1
  exact xor_cancel s h1
def Bys (l : List Int) : Prop := ∀ x ∈ l, 0 ≤ x ∧ x ≤ 255
def crcFrom (s : Nat) (l : List Int) : Nat := l.foldl (fun s b => crcStep s b.toNat) s
theorem crcFrom_lt {s : Nat} {l : List Int} (hs : s < 65536) (hl : Bys l) : crcFrom s l < 65536 := by
  induction l generalizing s with
  | nil => exact hs
  | cons x l ih =>
    have hx := hl x List.mem_cons_self
    exact ih (crcStep_lt hs (by omega)) (fun y hy => hl y (List.mem_cons_of_mem _ hy))
theorem crcOf_lt {l : List Int} (hl : Bys l) : crcOf l < 65536 := crcFrom_lt (by omega) hl
theorem crcFrom_inj {s t : Nat} {l : List Int} (hs : s < 65536) (ht : t < 65536) (hl : Bys l) (h : crcFrom s l = crcFrom t l) : s = t := by
  induction l generalizing s t with
  | nil => exact h
  | cons x l ih =>
    have hx := hl x List.mem_cons_self
    have hl' : Bys l := fun y hy => hl y (List.mem_cons_of_mem _ hy)
    exact crcStep_inj hs ht (b := x.toNat) (by omega) (ih (crcStep_lt hs (by omega)) (crcStep_lt ht (by omega)) hl' h)
theorem crcFrom_append (s : Nat) (l m : List Int) : crcFrom s (l ++ m) = crcFrom (crcFrom s l) m := by simp [crcFrom, List.foldl_append]
theorem crcOf_eq (l : List Int) : crcOf l = crcFrom 0 l := rfl
theorem crcOf_one {l m : List Int} {x y : Int} (hl : Bys l) (hm : Bys m) (hx : 0 ≤ x ∧ x ≤ 255) (hy : 0 ≤ y ∧ y ≤ 255) (h : crcOf (l ++ x :: m) = crcOf (l ++ y :: m)) : x = y := by
  rw [crcOf_eq, crcOf_eq, crcFrom_append, crcFrom_append] at h
  have h0 := crcOf_lt hl
  rw [crcOf_eq] at h0
  have h1 : crcStep (crcFrom 0 l) x.toNat = crcStep (crcFrom 0 l) y.toNat := crcFrom_inj (crcStep_lt h0 (by omega)) (crcStep_lt h0 (by omega)) hm h
  have := crcStep_byte h0 (by omega) (by omega) h1
  omega
theorem Bys.append {l m : List Int} (h : Bys l) (k : Bys m) : Bys (l ++ m) := fun x hx => (List.mem_append.mp hx).elim (h x) (k x)
theorem Bys.left {l m : List Int} (h : Bys (l ++ m)) : Bys l := fun x hx => h x (List.mem_append_left _ hx)
theorem Bys.right {l m : List Int} (h : Bys (l ++ m)) : Bys m := fun x hx => h x (List.mem_append_right _ hx)
theorem Bys.take {l : List Int} (h : Bys l) (n : Nat) : Bys (l.take n) := fun x hx => h x (List.mem_of_mem_take hx)
theorem Bys.drop {l : List Int} (h : Bys l) (n : Nat) : Bys (l.drop n) := fun x hx => h x (List.mem_of_mem_drop hx)
theorem Bys.crcPut {l : List Int} (h : Bys l) : Bys (crcPut l) := by
  have hc := crcOf_lt h
  unfold Go.Proofs.YtnkhjnieidlknaaGreat.crcPut
  refine h.append ?_
  intro x hx
  simp only [List.mem_cons, List.not_mem_nil, or_false] at hx
  rcases hx with rfl | rfl <;> omega
theorem crcPut_length (l : List Int) : (crcPut l).length = l.length + 2 := by simp [crcPut]
theorem crcPut_take (l : List Int) : (crcPut l).take ((crcPut l).length - 2) = l := by
  rw [crcPut_length]; simp [crcPut]
theorem crcCut_put (l : List Int) : crcCut (crcPut l) = some l := by
  unfold crcCut
  rw [crcPut_take, if_pos ⟨by rw [crcPut_length]; omega, rfl⟩]
theorem crcCut_some {l b : List Int} (h : crcCut l = some b) : l = crcPut b := by
  unfold crcCut at h
  split at h
  · rename_i hc; injection h with h; rw [← h]; exact hc.2.symm
  · cases h
theorem crcCut_turned {l m : List Int} {x y : Int} (hb : Bys (l ++ x :: m)) (hy : 0 ≤ y ∧ y ≤ 255) (hxy : x ≠ y) {b : List Int} (hc : l ++ x :: m = crcPut b) : crcCut (l ++ y :: m) = none := by
  match h : crcCut (l ++ y :: m) with
  | none => rfl
  | some b' =>
    exfalso
    have e := crcCut_some h
    have hlen : b.length = b'.length := by
      have h1 := congrArg List.length hc
      have h2 := congrArg List.length e
      rw [crcPut_length] at h1 h2
      simp only [List.length_append, List.length_cons] at h1 h2
      omega
    have hl := hb.left
    have hm : Bys m := fun z hz => hb.right z (List.mem_cons_of_mem _ hz)
    have hx := hb.right x List.mem_cons_self
    have hbb : Bys b := by
      have := crcPut_take b
      rw [← this, ← hc]; exact hb.take _
    have hbb' : Bys b' := by
      have := crcPut_take b'
      rw [← this, ← e]; refine Bys.take ?_ _
      exact hl.append (fun z hz => by rcases List.mem_cons.mp hz with rfl | hz; exact hy; exact hm z hz)
    by_cases hlt : l.length < b.length
    · -- within what is summed
      have e1 : b = l ++ x :: (b.drop (l.length + 1)) := by
        have h1 : (l ++ x :: m).take b.length = b := by rw [hc]; simp [crcPut]
        have h2 : (l ++ x :: m).take b.length = l ++ x :: m.take (b.length - l.length - 1) := by
          rw [List.take_append, List.take_of_length_le (by omega)]
          obtain ⟨d, hd⟩ : ∃ d, b.length - l.length = d + 1 := ⟨b.length - l.length - 1, by omega⟩
          rw [hd, List.take_succ_cons]; simp
        rw [h2] at h1
        rw [← h1]; simp
      have e2 : b' = l ++ y :: (b'.drop (l.length + 1)) := by
        have h1 : (l ++ y :: m).take b'.length = b' := by rw [e]; simp [crcPut]
        have h2 : (l ++ y :: m).take b'.length = l ++ y :: m.take (b'.length - l.length - 1) := by
          rw [List.take_append, List.take_of_length_le (by omega)]
          obtain ⟨d, hd⟩ : ∃ d, b'.length - l.length = d + 1 := ⟨b'.length - l.length - 1, by omega⟩
          rw [hd, List.take_succ_cons]; simp
        rw [h2] at h1
        rw [← h1]; simp
      have e3 : m = b.drop (l.length + 1) ++ [((crcOf b % 256 : Nat) : Int), ((crcOf b / 256 : Nat) : Int)] := by
        have : l ++ x :: m = l ++ x :: (b.drop (l.length + 1) ++ [((crcOf b % 256 : Nat) : Int), ((crcOf b / 256 : Nat) : Int)]) := by
          rw [hc]; unfold crcPut; conv => lhs; arg 1; rw [e1]
          simp
        simpa using this
      have e4 : m = b'.drop (l.length + 1) ++ [((crcOf b' % 256 : Nat) : Int), ((crcOf b' / 256 : Nat) : Int)] := by
        have : l ++ y :: m = l ++ y :: (b'.drop (l.length + 1) ++ [((crcOf b' % 256 : Nat) : Int), ((crcOf b' / 256 : Nat) : Int)]) := by
          rw [e]; unfold crcPut; conv => lhs; arg 1; rw [e2]
          simp
        simpa using this
      rw [e3] at e4
      have hd := List.append_inj e4 (by simp; omega)
      have hs : crcOf b = crcOf b' := by
        have := hd.2
        simp only [List.cons.injEq, and_true] at this
        omega
      rw [e1, e2, ← hd.1] at hs
      have hz : Bys (b.drop (l.length + 1)) := hbb.drop _
      exact hxy (crcOf_one hl hz hx hy hs)
    · -- within the sum
      have hbe : b = b' := by
        have h1 : (l ++ x :: m).take b.length = b := by rw [hc]; simp [crcPut]
        have h2 : (l ++ y :: m).take b'.length = b' := by rw [e]; simp [crcPut]
        rw [List.take_append_of_le_length (by omega)] at h1
        rw [List.take_append_of_le_length (by omega), ← hlen] at h2
        rw [← h1, ← h2]
      rw [← hbe, ← hc] at e
      have := List.append_cancel_left e
      simp only [List.cons.injEq, and_true] at this
      exact hxy this.symm
theorem frmRead_turned {l m : List Int} {x y : Int} (hb : Bys (l ++ x :: m)) (hy : 0 ≤ y ∧ y ≤ 255) (hxy : x ≠ y) {b : List Int} (hc : l ++ x :: m = crcPut b) : frmRead (l ++ y :: m) = none := by
  unfold frmRead
  rw [crcCut_turned hb hy hxy hc]
/-! frames -/
theorem inB_iff {n lo hi : Int} : inB n lo hi = true ↔ lo ≤ n ∧ n ≤ hi := by simp [inB]
theorem isNum_iff {n : Int} : isNum n = true ↔ 0 ≤ n ∧ n ≤ 7 := inB_iff
theorem pieceOk_iff {seg len : Int} {n : Nat} : pieceOk seg len n = true ↔ (seg = 0 ∧ n ≤ 8 ∧ len = n) ∨ (seg = 1 ∧ 1 ≤ n ∧ n ≤ 8 ∧ (n : Int) + 1 ≤ len ∧ len ≤ 24) ∨ ((seg = 2 ∨ seg = 3) ∧ 1 ≤ n ∧ n ≤ 8 ∧ len = 0) := by
  unfold pieceOk
  by_cases h0 : seg = 0
  · rw [if_pos h0]; simp only [Bool.and_eq_true, decide_eq_true_eq]; omega
  · rw [if_neg h0]
    by_cases h1 : seg = 1
    · rw [if_pos h1]; simp only [Bool.and_eq_true, inB_iff]; omega
    · rw [if_neg h1]
      by_cases h2 : seg = 2 ∨ seg = 3
      · rw [if_pos h2]; simp only [Bool.and_eq_true, inB_iff, decide_eq_true_eq]; omega
      · rw [if_neg h2]; simp only [Bool.false_eq_true, false_iff]; omega
theorem pieceOk_bound {seg len : Int} {n : Nat} (h : pieceOk seg len n = true) : 0 ≤ seg ∧ seg ≤ 3 ∧ 0 ≤ len ∧ len ≤ 24 ∧ n ≤ 8 := by
  have := pieceOk_iff.mp h; omega
theorem frmOk_bound {f : Frm} (h : frmOk f = true) : (1 ≤ f.kind ∧ f.kind ≤ 4) ∧ (0 ≤ f.seq ∧ f.seq ≤ 7) ∧ (0 ≤ f.ack ∧ f.ack ≤ 7) ∧ (0 ≤ f.say ∧ f.say ≤ 2) ∧ (0 ≤ f.seg ∧ f.seg ≤ 3) ∧ (0 ≤ f.len ∧ f.len ≤ 255) ∧ f.data.length ≤ 8 := by
  unfold frmOk at h
  split at h
  · rename_i hk
    simp only [Bool.and_eq_true, isNum_iff, decide_eq_true_eq] at h
    have := pieceOk_bound h.2
    omega
  · split at h
    · rename_i hk
      simp only [Bool.and_eq_true, isNum_iff, inB_iff, decide_eq_true_eq] at h
      obtain ⟨⟨⟨⟨⟨⟨h1, h2⟩, h3⟩, h4⟩, h5⟩, h6⟩, h7⟩ := h
      simp only [h7, List.length_nil]; omega
    · split at h
      · rename_i hk
        simp only [Bool.and_eq_true, decide_eq_true_eq] at h
        have := pieceOk_bound h.2
        omega
      · split at h
        · rename_i hk
          simp only [Bool.and_eq_true, inB_iff, decide_eq_true_eq] at h
          obtain ⟨⟨⟨⟨⟨⟨⟨h1, h2⟩, h3⟩, h4⟩, h5⟩, h6⟩, h7⟩, h8⟩ := h
          simp only [h8, List.length_nil]; omega
        · cases h
theorem bit_01 (b : Bool) : 0 ≤ bit b ∧ bit b ≤ 1 := by cases b <;> simp [bit]
theorem frmOf_head (f : Frm) (h : frmOk f = true) : frmOf (frmHead f ++ f.data) = f := by
  have hb := frmOk_bound h
  obtain ⟨kind, seq, ack, poll, fin, say, seg, len, data⟩ := f
  simp only [frmHead, frmOf, List.cons_append, List.nil_append, List.getD_cons_zero, List.getD_cons_succ, List.drop_succ_cons, List.drop_zero, Frm.mk.injEq, true_and, and_true] at hb ⊢
  refine ⟨by omega, by omega, ?_, ?_, ?_, ?_⟩
  · cases poll <;> cases fin <;> simp [bit] <;> omega
  · cases poll <;> cases fin <;> simp [bit] <;> omega
  · cases poll <;> cases fin <;> simp [bit] <;> omega
  · cases poll <;> cases fin <;> simp [bit] <;> omega
theorem frmHead_bys {f : Frm} (h : frmOk f = true) : Bys (frmHead f) := by
  have hb := frmOk_bound h
  have h1 := bit_01 f.poll
  have h2 := bit_01 f.fin
  intro x hx
  simp only [frmHead, List.mem_cons, List.not_mem_nil, or_false] at hx
  rcases hx with rfl | rfl | rfl | rfl | rfl <;> omega
theorem frmBytes_ok {f : Frm} (h : frmOk f = true) : frmBytes f = crcPut (frmHead f ++ f.data) := by unfold frmBytes; rw [if_pos h]
theorem frmBytes_length {f : Frm} (h : frmOk f = true) : (frmBytes f).length = f.data.length + 7 := by
  rw [frmBytes_ok h, crcPut_length]; simp [frmHead]
theorem frmBytes_le (f : Frm) : (frmBytes f).length ≤ 15 := by
  by_cases h : frmOk f = true
  · have := frmOk_bound h; rw [frmBytes_length h]; omega
  · unfold frmBytes; rw [if_neg h]; simp
theorem frmBytes_bys {f : Frm} (h : frmOk f = true) (hd : Bys f.data) : Bys (frmBytes f) := by
  rw [frmBytes_ok h]; exact ((frmHead_bys h).append hd).crcPut
theorem frmRead_bytes {f : Frm} (h : frmOk f = true) : frmRead (frmBytes f) = some f := by
  have e : crcCut (frmBytes f) = some (frmHead f ++ f.data) := by rw [frmBytes_ok h, crcCut_put]
  unfold frmRead
  rw [e]
  simp only [frmOf_head f h]
  rw [if_pos ⟨by simp [frmHead], trivial⟩]
theorem frmRead_some {l : List Int} {f : Frm} (h : frmRead l = some f) : frmBytes f = l ∧ (l ≠ [] → frmOk f = true) := by
  unfold frmRead at h
  split at h
  · rename_i bb _
    split at h
    · rename_i hc
      injection h with h
      subst h
      refine ⟨hc.2, fun hn => ?_⟩
      by_cases ho : frmOk (frmOf bb) = true
      · exact ho
      · exfalso
        have := hc.2
        unfold frmBytes at this
        rw [if_neg ho] at this
        exact hn this.symm
    · cases h
  · cases h
theorem frmRead_ok {l : List Int} {f : Frm} (h : frmRead l = some f) : frmOk f = true ∧ frmBytes f = l := by
  obtain ⟨h1, h2⟩ := frmRead_some h
  refine ⟨h2 ?_, h1⟩
  rintro rfl
  simp [frmRead, crcCut] at h
theorem frmRead_bent {f : Frm} (h : frmOk f = true) (hd : Bys f.data) (i : Nat) (hi : i < (frmBytes f).length) (y : Int) (hy : 0 ≤ y ∧ y ≤ 255) (hn : (frmBytes f).getD i 0 ≠ y) : frmRead ((frmBytes f).set i y) = none := by
  have hb := frmBytes_bys h hd
  have hs : frmBytes f = (frmBytes f).take i ++ (frmBytes f).getD i 0 :: (frmBytes f).drop (i + 1) := by
    rw [List.getD_eq_getElem?_getD, List.getElem?_eq_getElem hi]
    simp
  have ht : (frmBytes f).set i y = (frmBytes f).take i ++ y :: (frmBytes f).drop (i + 1) := by
    rw [List.set_eq_take_append_cons_drop, if_pos hi]
  rw [ht]
  refine frmRead_turned (x := (frmBytes f).getD i 0) ?_ hy hn (b := frmHead f ++ f.data) ?_
  · rw [← hs]; exact hb
  · rw [← hs]; exact frmBytes_ok h
theorem bendM_read {m : Msg} {f : Frm} (h : frmOk f = true) (hd : Bys f.data) (hm : m.bytes = frmBytes f) (at_ v : Int) : (bendM m at_ v = m) ∨ ((bendM m at_ v).bent = true ∧ frmRead (bendM m at_ v).bytes = none ∧ (bendM m at_ v).bytes.length = m.bytes.length) := by
  unfold bendM
  split
  · rename_i hc
    right
    obtain ⟨h1, h2, h3, h4, h5⟩ := hc
    refine ⟨rfl, ?_, by simp⟩
    have hi : at_.toNat < m.bytes.length := by omega
    rw [hm] at hi ⊢
    have hb := frmBytes_bys h hd
    have hx : 0 ≤ (frmBytes f).getD at_.toNat 0 ∧ (frmBytes f).getD at_.toNat 0 ≤ 255 := by
      rw [List.getD_eq_getElem?_getD, List.getElem?_eq_getElem hi]; exact hb _ (List.getElem_mem hi)
    refine frmRead_bent h hd _ hi _ ?_ ?_
    · have := Nat.xor_lt_two_pow (n := 8) (x := ((frmBytes f).getD at_.toNat 0).toNat) (y := v.toNat) (by omega) (by omega)
      omega
    · intro he
      have h6 : ((frmBytes f).getD at_.toNat 0).toNat = ((frmBytes f).getD at_.toNat 0).toNat ^^^ v.toNat := by omega
      have h7 : (0 : Nat) = v.toNat := by
        have h8 := congrArg (fun z => ((frmBytes f).getD at_.toNat 0).toNat ^^^ z) h6
        simp only [Nat.xor_self] at h8
        rw [← Nat.xor_assoc, Nat.xor_self, Nat.zero_xor] at h8
        exact h8
      omega
  · left; rfl
theorem segGo_mem {sdu : List Int} {most : Nat} (hm : 1 ≤ most) {k at_ : Nat} {p : Part} (hp : p ∈ segGo sdu most k at_) : ∃ a, at_ ≤ a ∧ a < sdu.length ∧ (a = at_ ∨ at_ + most ≤ a) ∧ p = segAt sdu most a := by
  induction k generalizing at_ with
  | zero => simp [segGo] at hp
  | succ k ih =>
    rw [segGo] at hp
    split at hp
    · rename_i hlt
      rcases List.mem_cons.mp hp with rfl | hp
      · exact ⟨at_, Nat.le_refl _, hlt, .inl rfl, rfl⟩
      · obtain ⟨a, h1, h2, h3, h4⟩ := ih hp
        exact ⟨a, by omega, h2, .inr (by omega), h4⟩
    · simp at hp
theorem segAt_ok {sdu : List Int} {most a : Nat} (h24 : sdu.length ≤ 24) (h1 : 1 ≤ most) (h8 : most ≤ 8) (hl : most < sdu.length) (ha : a < sdu.length) (h0 : a = 0 ∨ most ≤ a) :
    partOk (segAt sdu most a) = true ∧ (segAt sdu most a).data.length ≤ most ∧ (segAt sdu most a).len ≤ sdu.length := by
  have hd : (segAt sdu most a).data.length = min most (sdu.length - a) := by simp [segAt]
  unfold partOk
  rw [pieceOk_iff, hd]
  by_cases h : a = 0
  · subst h
    simp only [segAt, if_true]
    refine ⟨?_, ?_, ?_⟩ <;> (try simp only [true_and, and_true, or_true, true_or, false_or, or_false]) <;> omega
  · by_cases he : a + most ≥ sdu.length
    · simp only [segAt, if_neg h, if_pos he]
      refine ⟨?_, ?_, ?_⟩ <;> (try simp only [true_and, and_true, or_true, true_or, false_or, or_false]) <;> omega
    · simp only [segAt, if_neg h, if_neg he]
      refine ⟨?_, ?_, ?_⟩ <;> (try simp only [true_and, and_true, or_true, true_or, false_or, or_false]) <;> omega
theorem segCut_mem {sdu : List Int} {most : Int} {p : Part} (hp : p ∈ segCut sdu most) : partOk p = true ∧ (p.data.length : Int) ≤ most ∧ p.len ≤ sdu.length ∧ (Bys sdu → Bys p.data) := by
  unfold segCut at hp
  split at hp
  · simp at hp
  · rename_i hc
    split at hp
    · rename_i hle
      rw [List.mem_singleton] at hp
      subst hp
      refine ⟨?_, hle, Int.le_refl _, fun h => h⟩
      unfold partOk; rw [pieceOk_iff]; left; refine ⟨rfl, ?_, rfl⟩; simp only; omega
    · rename_i hle
      obtain ⟨a, h1, h2, h3, rfl⟩ := segGo_mem (by omega) hp
      obtain ⟨k1, k2, k3⟩ := segAt_ok (sdu := sdu) (most := most.toNat) (a := a) (by omega) (by omega) (by omega) (by omega) h2 (by omega)
      refine ⟨k1, by omega, k3, fun h => ?_⟩
      exact (h.drop a).take most.toNat
theorem segGo_length (sdu : List Int) (most : Nat) (k at_ : Nat) : (segGo sdu most k at_).length ≤ k := by
  induction k generalizing at_ with
  | zero => simp [segGo]
  | succ k ih =>
    rw [segGo]
    split
    · have := ih (at_ + most); simp only [List.length_cons]; omega
    · simp
theorem segCut_length (sdu : List Int) (most : Int) : (segCut sdu most).length ≤ 24 := by
  unfold segCut
  split
  · simp
  · split
    · simp
    · have := segGo_length sdu most.toNat sdu.length 0; omega
def joinGo (s : Join × List (List Int)) (p : Part) : Option (Join × List (List Int)) :=
  if (segPut s.1 p).2.2 = 3 then none else some ((segPut s.1 p).1, if (segPut s.1 p).2.2 = 2 then s.2 ++ [(segPut s.1 p).2.1] else s.2)
def joins (l : List Part) : Option (Join × List (List Int)) := l.foldlM joinGo (join0, [])
theorem take_app (l : List Int) (a m : Nat) : l.take a ++ (l.drop a).take m = l.take (a + m) := by
  rw [List.take_add]
theorem joins_segGo {sdu : List Int} {most : Nat} (h24 : sdu.length ≤ 24) (hm : 1 ≤ most) (g : List (List Int)) :
    ∀ k at_, 0 < at_ → at_ < sdu.length → sdu.length - at_ ≤ k → (segGo sdu most k at_).foldlM joinGo (⟨sdu.length, sdu.take at_⟩, g) = some (join0, g ++ [sdu]) := by
  intro k
  induction k with
  | zero => intro at_ h1 h2 h3; omega
  | succ k ih =>
    intro at_ h1 h2 h3
    rw [segGo, if_pos h2, List.foldlM_cons]
    have hall : sdu.take at_ ++ (segAt sdu most at_).data = sdu.take (at_ + most) := take_app sdu at_ most
    have hlen : (sdu.take (at_ + most)).length = min (at_ + most) sdu.length := List.length_take
    by_cases he : at_ + most ≥ sdu.length
    · have e : joinGo (⟨sdu.length, sdu.take at_⟩, g) (segAt sdu most at_) = some (join0, g ++ [sdu]) := by
        have hs : (segAt sdu most at_).seg = 3 := by simp only [segAt, if_neg (by omega : ¬ at_ = 0), if_pos he]
        have hall' : sdu.take at_ ++ (segAt sdu most at_).data = sdu := by rw [hall, List.take_of_length_le (by omega)]
        have hp : segPut ⟨sdu.length, sdu.take at_⟩ (segAt sdu most at_) = (join0, sdu, 2) := by
          unfold segPut
          simp only [hs, hall']
          rw [if_neg (by omega), if_neg (by omega), if_neg (by omega), if_pos ⟨trivial, by omega, trivial⟩]
        unfold joinGo
        simp only [hp]
        rfl
      rw [e]
      have hz : segGo sdu most k (at_ + most) = [] := by
        cases k with
        | zero => rfl
        | succ k => rw [segGo, if_neg (by omega)]
      rw [hz]; rfl
    · have e : joinGo (⟨sdu.length, sdu.take at_⟩, g) (segAt sdu most at_) = some (⟨sdu.length, sdu.take (at_ + most)⟩, g) := by
        have hs : (segAt sdu most at_).seg = 2 := by simp only [segAt, if_neg (by omega : ¬ at_ = 0), if_neg he]
        have hp : segPut ⟨sdu.length, sdu.take at_⟩ (segAt sdu most at_) = (⟨sdu.length, sdu.take (at_ + most)⟩, [], 1) := by
          unfold segPut
          simp only [hs, hall]
          rw [if_neg (by omega), if_neg (by omega), if_pos ⟨trivial, by omega, by omega⟩]
        unfold joinGo
        simp only [hp]
        rfl
      rw [e]
      exact ih (at_ + most) (by omega) (by omega) (by omega)
theorem joins_segCut {sdu : List Int} {most : Int} (h24 : sdu.length ≤ 24) (h1 : 1 ≤ most) (h8 : most ≤ 8) (g : List (List Int)) :
    (segCut sdu most).foldlM joinGo (join0, g) = some (join0, g ++ [sdu]) := by
  unfold segCut
  rw [if_neg (by omega)]
  split
  · rename_i hle
    have hp : segPut join0 ⟨0, sdu.length, sdu⟩ = (join0, sdu, 2) := by simp [segPut, join0]
    rw [List.foldlM_cons]
    have : joinGo (join0, g) ⟨0, sdu.length, sdu⟩ = some (join0, g ++ [sdu]) := by unfold joinGo; simp only [hp]; rfl
    rw [this]; rfl
  · rename_i hle
    obtain ⟨k, hk⟩ : ∃ k, sdu.length = k + 1 := ⟨sdu.length - 1, by omega⟩
    have hg : segGo sdu most.toNat sdu.length 0 = segAt sdu most.toNat 0 :: segGo sdu most.toNat k most.toNat := by
      conv => lhs; arg 3; rw [hk]
      rw [segGo, if_pos (by omega), Nat.zero_add]
    rw [hg, List.foldlM_cons]
    have e : joinGo (join0, g) (segAt sdu most.toNat 0) = some (⟨sdu.length, sdu.take most.toNat⟩, g) := by
      have hp : segPut join0 (segAt sdu most.toNat 0) = (⟨sdu.length, sdu.take most.toNat⟩, [], 1) := by simp [segPut, join0, segAt]
      unfold joinGo; simp only [hp]; rfl
    rw [e]
    exact joins_segGo h24 (by omega) g k most.toNat (by omega) (by omega) (by omega)
theorem joinGo_grows {s t : Join × List (List Int)} {p : Part} (h : joinGo s p = some t) : ∃ x, t.2 = s.2 ++ x := by
  unfold joinGo at h
  split at h
  · cases h
  · injection h with h
    subst h
    simp only
    split
    · exact ⟨_, rfl⟩
    · exact ⟨[], by simp⟩
theorem joins_grow {l : List Part} : ∀ {s t : Join × List (List Int)}, l.foldlM joinGo s = some t → ∃ x, t.2 = s.2 ++ x := by
  induction l with
  | nil => intro s t h; simp only [List.foldlM_nil] at h; cases h; exact ⟨[], by simp⟩
  | cons p l ih =>
    intro s t h
    rw [List.foldlM_cons] at h
    obtain ⟨u, h1, h2⟩ := Option.bind_eq_some_iff.mp h
    obtain ⟨x, hx⟩ := joinGo_grows h1
    obtain ⟨y, hy⟩ := ih h2
    exact ⟨x ++ y, by rw [hy, hx, List.append_assoc]⟩
def pieces (most : Int) (put : List (List Int)) : List Part := put.flatMap fun m => segCut m most
theorem pieces_snoc (most : Int) (put : List (List Int)) (m : List Int) : pieces most (put ++ [m]) = pieces most put ++ segCut m most := by simp [pieces]
theorem pieces_length (most : Int) (put : List (List Int)) : (pieces most put).length ≤ put.length * 24 := by
  induction put with
  | nil => simp [pieces]
  | cons m l ih =>
    have h1 := segCut_length m most
    have e : pieces most (m :: l) = segCut m most ++ pieces most l := by simp [pieces]
    rw [e, List.length_append, List.length_cons, Nat.succ_mul]; omega
theorem joins_pieces' {most : Int} (h1 : 1 ≤ most) (h8 : most ≤ 8) (put : List (List Int)) (h24 : ∀ m ∈ put, m.length ≤ 24) : ∀ g, (pieces most put).foldlM joinGo (join0, g) = some (join0, g ++ put) := by
  induction put with
  | nil => intro g; simp [pieces]
  | cons m l ih =>
    intro g
    have e : pieces most (m :: l) = segCut m most ++ pieces most l := by simp [pieces]
    rw [e, List.foldlM_append, joins_segCut (h24 m List.mem_cons_self) h1 h8 g, Option.bind_eq_bind, Option.bind_some, ih (fun x hx => h24 x (List.mem_cons_of_mem _ hx))]
    simp
theorem joins_pieces {most : Int} (h1 : 1 ≤ most) (h8 : most ≤ 8) {put : List (List Int)} (h24 : ∀ m ∈ put, m.length ≤ 24) : joins (pieces most put) = some (join0, put) := by
  have := joins_pieces' h1 h8 put h24 []
  rw [List.nil_append] at this
  exact this
theorem joins_take {P : List Part} {put : List (List Int)} (h : joins P = some (join0, put)) (b : Nat) : ∃ s, joins (P.take b) = some s ∧ ∃ x, put = s.2 ++ x := by
  have e : P = P.take b ++ P.drop b := (List.take_append_drop b P).symm
  rw [e] at h
  unfold joins at h
  rw [List.foldlM_append] at h
  obtain ⟨s, h1, h2⟩ := Option.bind_eq_some_iff.mp h
  obtain ⟨x, hx⟩ := joins_grow h2
  exact ⟨s, h1, x, hx⟩
theorem joins_next {P : List Part} {put : List (List Int)} (h : joins P = some (join0, put)) {b : Nat} {p : Part} (hp : P[b]? = some p) {s : Join × List (List Int)} (hs : joins (P.take b) = some s) :
    (segPut s.1 p).2.2 ≠ 3 ∧ joins (P.take (b + 1)) = some ((segPut s.1 p).1, if (segPut s.1 p).2.2 = 2 then s.2 ++ [(segPut s.1 p).2.1] else s.2) := by
  obtain ⟨t, ht, _⟩ := joins_take h (b + 1)
  have hb : b < P.length := (List.getElem?_eq_some_iff.mp hp).1
  have e : P.take (b + 1) = P.take b ++ [p] := by
    rw [List.take_add_one, hp]; rfl
  have h2 : joins (P.take (b + 1)) = joinGo s p := by
    rw [e]; unfold joins at hs ⊢
    rw [List.foldlM_append, hs, Option.bind_eq_bind, Option.bind_some, List.foldlM_cons]
    cases joinGo s p <;> rfl
  have h3 : joinGo s p = some t := by rw [← h2]; exact ht
  unfold joinGo at h3 h2
  split at h3
  · cases h3
  · rename_i hc
    rw [if_neg hc] at h2
    exact ⟨hc, h2⟩
structure CfgI (c : Cfg) : Prop where
  mode : c.mode = 1 ∨ c.mode = 2
  win : 1 ≤ c.win ∧ c.win ≤ 4
  mps : 1 ≤ c.mps ∧ c.mps ≤ 8
  mtu : 1 ≤ c.mtu ∧ c.mtu ≤ 24
  tri : 1 ≤ c.tri ∧ c.tri ≤ 5
theorem cfgOk_iff {c : Cfg} : cfgOk c = true ↔ CfgI c := by
  unfold cfgOk
  simp only [Bool.and_eq_true, inB_iff]
  constructor
  · rintro ⟨⟨⟨⟨h1, h2⟩, h3⟩, h4⟩, h5⟩; exact ⟨by omega, h2, h3, h4, h5⟩
  · rintro ⟨h1, h2, h3, h4, h5⟩; exact ⟨⟨⟨⟨by omega, h2⟩, h3⟩, h4⟩, h5⟩
def PartsI (c : Cfg) (l : List Part) : Prop := ∀ p ∈ l, partOk p = true ∧ (p.data.length : Int) ≤ c.mps
theorem partsOk_iff {c : Cfg} {l : List Part} : partsOk c l = true ↔ PartsI c l := by
  unfold partsOk PartsI
  simp only [List.all_eq_true, Bool.and_eq_true, decide_eq_true_eq]
theorem PartsI.append {c : Cfg} {l m : List Part} (h : PartsI c l) (k : PartsI c m) : PartsI c (l ++ m) := fun p hp => (List.mem_append.mp hp).elim (h p) (k p)
theorem PartsI.drop {c : Cfg} {l : List Part} (h : PartsI c l) (n : Nat) : PartsI c (l.drop n) := fun p hp => h p (List.mem_of_mem_drop hp)
theorem PartsI.take {c : Cfg} {l : List Part} (h : PartsI c l) (n : Nat) : PartsI c (l.take n) := fun p hp => h p (List.mem_of_mem_take hp)
structure TxI (c : Cfg) (t : Tx) : Prop where
  cfg : CfgI c
  acked : 0 ≤ t.acked ∧ t.acked ≤ 7
  next : 0 ≤ t.next ∧ t.next ≤ 7
  far : far t.acked t.next = t.flight.length
  win : (t.flight.length : Int) ≤ c.win
  sent : 0 ≤ t.sent ∧ t.sent ≤ t.flight.length
  queue : t.queue.length ≤ 24
  tries : 0 ≤ t.tries ∧ t.tries ≤ c.tri
  count : 0 ≤ t.count ∧ t.count ≤ 9999
  num : numOf t.count = t.acked
  fl : PartsI c t.flight
  qu : PartsI c t.queue
theorem txOk_iff {c : Cfg} {t : Tx} : txOk c t = true ↔ TxI c t := by
  unfold txOk
  simp only [Bool.and_eq_true, inB_iff, isNum_iff, decide_eq_true_eq, cfgOk_iff, partsOk_iff]
  constructor
  · rintro ⟨⟨⟨⟨⟨⟨⟨⟨⟨⟨⟨h1, h2⟩, h3⟩, h4⟩, h5⟩, h6⟩, h7⟩, h8⟩, h9⟩, h10⟩, h11⟩, h12⟩
    exact ⟨h1, h2, h3, h4, h5, h6, h7, h8, h9, h10, h11, h12⟩
  · rintro ⟨h1, h2, h3, h4, h5, h6, h7, h8, h9, h10, h11, h12⟩
    exact ⟨⟨⟨⟨⟨⟨⟨⟨⟨⟨⟨h1, h2⟩, h3⟩, h4⟩, h5⟩, h6⟩, h7⟩, h8⟩, h9⟩, h10⟩, h11⟩, h12⟩
def Low (t : Tx) : Prop := t.count + t.flight.length ≤ 9999
theorem segCut_parts {c : Cfg} (sdu : List Int) : PartsI c (segCut sdu c.mps) := fun p hp => ⟨(segCut_mem hp).1, (segCut_mem hp).2.1⟩
theorem txPut_ok {c : Cfg} {t : Tx} {sdu : List Int} (h : TxI c t) (hl : Low t) : TxI c (txPut c t sdu).1 ∧ Low (txPut c t sdu).1 := by
  unfold txPut
  split
  · exact ⟨h, hl⟩
  · split
    · exact ⟨h, hl⟩
    · rename_i h2
      refine ⟨{ h with queue := ?_, qu := h.qu.append (segCut_parts sdu) }, hl⟩
      simp only [List.length_append]; omega
theorem txMove_ok {c : Cfg} {t : Tx} (h : TxI c t) (hl : Low t) (hw : t.sent = t.flight.length → (t.flight.length : Int) ≠ c.win ∧ t.queue ≠ [] ∧ t.count + t.flight.length ≠ 9999) : TxI c (txMove t) ∧ Low (txMove t) ∧ (txMove t).sent = t.sent ∧ t.sent < (txMove t).flight.length := by
  unfold txMove
  split
  · rename_i hs
    obtain ⟨h1, h2, h3⟩ := hw hs
    obtain ⟨p, q, hq⟩ := List.exists_cons_of_ne_nil h2
    have hc := h.cfg.win
    have hwn := h.win
    have hf := h.far
    have hse := h.sent
    have h1a := h.acked
    have h1n := h.next
    have hqq := h.qu
    have hql := h.queue
    unfold Low at hl
    unfold Go.Proofs.YtnkhjnieidlknaaGreat.far at hf
    have hnx : numNext t.next = (t.next + 1) % 8 := by unfold numNext; exact Int.tmod_eq_emod_of_nonneg (by omega)
    rw [hq] at hqq hql
    refine ⟨⟨h.cfg, h.acked, ?_, ?_, ?_, ?_, ?_, h.tries, h.count, h.num, ?_, ?_⟩, ?_, rfl, ?_⟩
    · simp only [hnx]; omega
    · simp only [hnx, hq, List.length_append, List.length_take, List.length_cons]; unfold Go.Proofs.YtnkhjnieidlknaaGreat.far; omega
    · simp only [hq, List.length_append, List.length_take, List.length_cons]; omega
    · simp only [hq, List.length_append, List.length_take, List.length_cons]; omega
    · simp only [hq, List.drop_succ_cons, List.drop_zero]; simp only [List.length_cons] at hql; omega
    · refine h.fl.append ?_; exact h.qu.take 1
    · exact h.qu.drop 1
    · unfold Low; simp only [hq, List.length_append, List.length_take, List.length_cons]; omega
    · simp only [hq, List.length_append, List.length_take, List.length_cons]; omega
  · rename_i hs
    refine ⟨h, hl, rfl, ?_⟩
    have := h.sent
    omega
theorem txStops_no {g : Bool} {c : Cfg} {t : Tx} (h : txStops g c t = false) : t.dead = false ∧ t.asks = false ∧ t.held = false ∧ (t.sent = t.flight.length → (t.flight.length : Int) ≠ c.win ∧ t.queue ≠ [] ∧ t.count + t.flight.length ≠ 9999) := by
  unfold txStops at h
  simp only [Bool.or_eq_false_iff, Bool.and_eq_false_iff, decide_eq_false_iff_not] at h
  obtain ⟨⟨⟨h1, h2⟩, h3⟩, h4⟩ := h
  refine ⟨h1, h2, h3, fun hs => ?_⟩
  rcases h4 with h4 | ⟨⟨h4, h5⟩, h6⟩
  · exact absurd hs h4
  · refine ⟨h4, h5, ?_⟩
    unfold txTop at h6
    split at h6
    · have := of_decide_eq_false h6; omega
    · exact of_decide_eq_false h6
theorem txSend_ok {g : Bool} {c : Cfg} {t : Tx} {ack : Int} (h : TxI c t) (hl : Low t) : TxI c (txSend g c t ack).1 ∧ Low (txSend g c t ack).1 := by
  unfold txSend
  by_cases hs : txStops g c t = true
  · rw [if_pos hs]; exact ⟨h, hl⟩
  · rw [if_neg hs]
    obtain ⟨h1, h2, h3, h4⟩ := txStops_no (by simpa using hs)
    obtain ⟨k1, k2, k3, k4⟩ := txMove_ok h hl h4
    refine ⟨{ k1 with sent := ?_ }, k2⟩
    have := h.sent
    simp only
    omega
theorem far_lt (a b : Int) : 0 ≤ far a b ∧ far a b ≤ 7 := by unfold far; omega
theorem txHear_ok {c : Cfg} {t : Tx} {f : Frm} (h : TxI c t) (hl : Low t) (hf : 0 ≤ f.ack ∧ f.ack ≤ 7) : TxI c (txHear t f) ∧ Low (txHear t f) := by
  unfold txHear
  split
  · exact ⟨h, hl⟩
  · split
    · exact ⟨{ h with }, hl⟩
    · rename_i h1 h2
      have hfl := far_lt t.acked f.ack
      have h3 := h.far
      have h4 := h.acked
      have h5 := h.next
      have h6 := h.num
      have h7 := h.count
      have h8 := h.sent
      have h9 := h.win
      have h10 := h.tries
      have h11 := h.cfg.win
      have h12 := h.cfg.tri
      unfold Low at hl
      have hd : ((t.flight.drop (far t.acked f.ack).toNat).length : Int) = t.flight.length - far t.acked f.ack := by rw [List.length_drop]; omega
      have hn : numOf (t.count + far t.acked f.ack) = f.ack := by
        unfold numOf at h6 ⊢
        rw [if_neg (by omega)] at h6 ⊢
        unfold far at *
        omega
      have hfar : far f.ack t.next = t.flight.length - far t.acked f.ack := by
        unfold far at *
        omega
      refine ⟨⟨h.cfg, hf, h.next, ?_, ?_, ?_, h.queue, ?_, ?_, hn, h.fl.drop _, h.qu⟩, ?_⟩
      · simp only [hd, hfar]
      · simp only [hd]; omega
      · simp only [hd]
        split
        · omega
        · split <;> omega
      · simp only; split <;> omega
      · simp only; omega
      · unfold Low; simp only [hd]; omega
theorem txTick_ok {c : Cfg} {t : Tx} {ack : Int} {busy : Bool} (h : TxI c t) (hl : Low t) : TxI c (txTick c t ack busy).1 ∧ Low (txTick c t ack busy).1 := by
  unfold txTick
  split
  · exact ⟨h, hl⟩
  · split
    · exact ⟨{ h with }, hl⟩
    · rename_i h1 h2
      have := h.tries
      exact ⟨{ h with tries := by simp only; omega }, hl⟩
/-! who hears -/
def JoinI (j : Join) : Prop := (j.len = 0 ∧ j.got = []) ∨ ((2 ≤ j.len ∧ j.len ≤ 24) ∧ 1 ≤ j.got.length ∧ (j.got.length : Int) ≤ j.len - 1)
theorem joinOk_iff {j : Join} : joinOk j = true ↔ JoinI j := by
  unfold joinOk JoinI
  simp only [Bool.or_eq_true, Bool.and_eq_true, decide_eq_true_eq, inB_iff]
  constructor
  · rintro (h | h); exact .inl h; exact .inr (by omega)
  · rintro (h | h); exact .inl h; exact .inr (by omega)
theorem JoinI.le {j : Join} (h : JoinI j) : j.got.length ≤ 23 := by
  rcases h with ⟨_, h⟩ | h
  · rw [h]; simp
  · omega
theorem segPut_ok {j : Join} {p : Part} (h : JoinI j) (hp : partOk p = true) : JoinI (segPut j p).1 ∧ ((segPut j p).2.2 = 2 → (segPut j p).2.1.length ≤ 24 ∧ (p.seg = 0 → (segPut j p).2.1.length = p.data.length) ∧ (p.seg = 0 ∨ (segPut j p).2.1.length = j.len)) := by
  unfold partOk at hp
  rw [pieceOk_iff] at hp
  have hj := h.le
  unfold segPut
  split
  · rename_i hc
    refine ⟨.inl ⟨rfl, rfl⟩, fun _ => ?_⟩
    rcases h with ⟨h1, h2⟩ | h
    · show (j.got ++ p.data).length ≤ 24 ∧ (p.seg = 0 → (j.got ++ p.data).length = p.data.length) ∧ (p.seg = 0 ∨ ((j.got ++ p.data).length : Int) = j.len)
      rw [h2, List.nil_append]
      exact ⟨by omega, fun _ => rfl, .inl hc.1⟩
    · omega
  · split
    · rename_i hc
      refine ⟨?_, fun he => by simp at he⟩
      rcases h with ⟨h1, h2⟩ | h
      · right
        show (2 ≤ p.len ∧ p.len ≤ 24) ∧ 1 ≤ (j.got ++ p.data).length ∧ ((j.got ++ p.data).length : Int) ≤ p.len - 1
        rw [h2, List.nil_append]; omega
      · omega
    · split
      · rename_i hc
        refine ⟨?_, fun he => by simp at he⟩
        rcases h with ⟨h1, h2⟩ | h
        · omega
        · right
          have h3 := hc.2.2
          simp only [List.length_append] at h3 ⊢
          omega
      · split
        · rename_i hc
          refine ⟨.inl ⟨rfl, rfl⟩, fun _ => ?_⟩
          rcases h with ⟨h1, h2⟩ | h
          · omega
          · simp only at *; omega
        · exact ⟨.inl ⟨rfl, rfl⟩, fun he => by simp at he⟩
structure RxI (r : Rx) : Prop where
  expect : 0 ≤ r.expect ∧ r.expect ≤ 7
  count : 0 ≤ r.count ∧ r.count ≤ 9999
  num : numOf r.count = r.expect
  join : JoinI r.join
theorem rxOk_iff {r : Rx} : rxOk r = true ↔ RxI r := by
  unfold rxOk
  simp only [Bool.and_eq_true, inB_iff, isNum_iff, decide_eq_true_eq, joinOk_iff]
  exact ⟨fun ⟨⟨⟨h1, h2⟩, h3⟩, h4⟩ => ⟨h1, h2, h3, h4⟩, fun ⟨h1, h2, h3, h4⟩ => ⟨⟨⟨h1, h2⟩, h3⟩, h4⟩⟩
theorem rxTake_ok {c : Cfg} {r : Rx} {f : Frm} (h : RxI r) (hp : pieceOk f.seg f.len f.data.length = true) : RxI (rxTake c r f).1 ∧ (∀ m ∈ (rxTake c r f).2, m.length ≤ 24) ∧ (rxTake c r f).2.length ≤ 1 := by
  have hs := segPut_ok (p := ⟨f.seg, f.len, f.data⟩) h.join hp
  unfold rxTake
  split
  · exact ⟨{ h with }, by simp, by simp⟩
  · rename_i hc
    simp only
    split
    · exact ⟨{ h with join := hs.1 }, by simp, by simp⟩
    · have h1 := h.expect
      have h2 := h.count
      have h3 := h.num
      have hnx : numNext r.expect = (r.expect + 1) % 8 := by unfold numNext; exact Int.tmod_eq_emod_of_nonneg (by omega)
      refine ⟨⟨?_, ?_, ?_, hs.1⟩, ?_, ?_⟩
      · simp only [hnx]; omega
      · simp only; omega
      · simp only [hnx]; unfold numOf at h3 ⊢; rw [if_neg (by omega)] at h3 ⊢; omega
      · simp only
        split
        · rename_i h4; intro m hm; rw [List.mem_singleton.mp hm]; exact (hs.2 h4).1
        · simp
      · simp only; split <;> simp
theorem rxHear_ok {c : Cfg} {r : Rx} {f : Frm} (h : RxI r) (hf : frmOk f = true) (hk : f.kind = 1 ∨ f.kind = 2) : RxI (rxHear c r f).1 ∧ (∀ m ∈ (rxHear c r f).2.1, m.length ≤ 24) ∧ (rxHear c r f).2.1.length ≤ 1 := by
  unfold rxHear
  split
  · exact ⟨h, by simp, by simp⟩
  · split
    · split
      · exact ⟨{ h with }, by simp, by simp⟩
      · exact ⟨h, by simp, by simp⟩
    · rename_i h2
      have hp : pieceOk f.seg f.len f.data.length = true := by
        have h1 : f.kind = 1 := by omega
        unfold frmOk at hf
        rw [if_pos h1] at hf
        simp only [Bool.and_eq_true] at hf
        exact hf.2
      split
      · exact ⟨h, by simp, by simp⟩
      · split
        · exact rxTake_ok h hp
        · split
          · exact ⟨{ h with }, by simp, by simp⟩
          · exact ⟨h, by simp, by simp⟩
theorem rxBusy_ok {r : Rx} {b : Bool} (h : RxI r) : RxI (rxBusy r b).1 := by
  unfold rxBusy; split
  · exact h
  · exact { h with }
/-! for credits -/
structure CTxI (c : Cfg) (t : CTx) : Prop where
  cfg : CfgI c
  hav : 0 ≤ t.hav ∧ t.hav ≤ 255
  granted : 0 ≤ t.granted ∧ t.granted ≤ 9999
  sent : 0 ≤ t.sent ∧ t.sent ≤ 9999
  sum : t.hav = t.granted - t.sent
  queue : t.queue.length ≤ 24
  qu : PartsI c t.queue
theorem ctxOk_iff {c : Cfg} {t : CTx} : ctxOk c t = true ↔ CTxI c t := by
  unfold ctxOk
  simp only [Bool.and_eq_true, inB_iff, decide_eq_true_eq, cfgOk_iff, partsOk_iff]
  exact ⟨fun ⟨⟨⟨⟨⟨⟨h1, h2⟩, h3⟩, h4⟩, h5⟩, h6⟩, h7⟩ => ⟨h1, h2, h3, h4, h5, h6, h7⟩, fun ⟨h1, h2, h3, h4, h5, h6, h7⟩ => ⟨⟨⟨⟨⟨⟨h1, h2⟩, h3⟩, h4⟩, h5⟩, h6⟩, h7⟩⟩
def CRxI (r : CRx) : Prop := (0 ≤ r.out ∧ r.out ≤ 255) ∧ JoinI r.join
theorem crxOk_iff {r : CRx} : crxOk r = true ↔ CRxI r := by
  unfold crxOk CRxI
  simp only [Bool.and_eq_true, inB_iff, joinOk_iff]
theorem crdPut_ok {c : Cfg} {t : CTx} {sdu : List Int} (h : CTxI c t) : CTxI c (crdPut c t sdu).1 := by
  unfold crdPut
  split
  · exact h
  · split
    · exact h
    · refine { h with queue := ?_, qu := h.qu.append (segCut_parts sdu) }
      simp only [List.length_append]; omega
theorem crdSend_ok {c : Cfg} {t : CTx} (h : CTxI c t) : CTxI c (crdSend t).1 := by
  unfold crdSend
  split
  · exact h
  · rename_i p q hq
    split
    · exact h
    · rename_i hc
      have h1 := h.hav; have h2 := h.granted; have h3 := h.sent; have h4 := h.sum; have h5 := h.queue; have h6 := h.qu
      rw [hq] at h5 h6
      simp only [List.length_cons] at h5
      refine ⟨h.cfg, ?_, h.granted, ?_, ?_, ?_, fun p hp => h6 p (List.mem_cons_of_mem _ hp)⟩ <;> simp only <;> omega
theorem crdTake_ok {c : Cfg} {t : CTx} {n : Int} (h : CTxI c t) (hn : 0 ≤ n) : CTxI c (crdTake t n) := by
  unfold crdTake
  split
  · exact h
  · split
    · exact { h with }
    · have h1 := h.hav; have h2 := h.granted; have h3 := h.sent; have h4 := h.sum
      refine ⟨h.cfg, ?_, ?_, h.sent, ?_, h.queue, h.qu⟩ <;> simp only <;> omega
theorem crdGrant_ok {r : CRx} (h : CRxI r) : CRxI (crdGrant r).1 := by
  unfold crdGrant
  split
  · exact h
  · exact ⟨by simp only; omega, h.2⟩
theorem crdHear_ok {c : Cfg} {r : CRx} {f : Frm} (h : CRxI r) (hp : pieceOk f.seg f.len f.data.length = true) : CRxI (crdHear c r f).1 ∧ (∀ m ∈ (crdHear c r f).2, m.length ≤ 24) ∧ (crdHear c r f).2.length ≤ 1 := by
  have hs := segPut_ok (p := ⟨f.seg, f.len, f.data⟩) h.2 hp
  have h1 := h.1
  unfold crdHear
  split
  · exact ⟨h, by simp, by simp⟩
  · split
    · exact ⟨h, by simp, by simp⟩
    · rename_i hc
      simp only
      split
      · exact ⟨⟨by simp only; omega, hs.1⟩, by simp, by simp⟩
      · refine ⟨⟨by simp only; omega, hs.1⟩, ?_, ?_⟩
        · simp only
          split
          · rename_i h4; intro m hm; rw [List.mem_singleton.mp hm]; exact (hs.2 h4).1
          · simp
        · simp only; split <;> simp
/-! two ends -/
def SdusI (l : List (List Int)) : Prop := l.length ≤ 60 ∧ ∀ m ∈ l, m.length ≤ 24
theorem sdusOk_iff {l : List (List Int)} : sdusOk l = true ↔ SdusI l := by
  unfold sdusOk SdusI
  simp only [Bool.and_eq_true, decide_eq_true_eq, List.all_eq_true]
structure EndI (c : Cfg) (e : End) : Prop where
  tx : TxI c e.tx
  low : Low e.tx
  rx : RxI e.rx
  ctx : CTxI c e.ctx
  crx : CRxI e.crx
  put : SdusI e.put
  got : SdusI e.got
def NetI (l : List Msg) : Prop := l.length ≤ 30 ∧ ∀ m ∈ l, m.bytes.length ≤ 15
theorem netOk_iff {l : List Msg} : netOk l = true ↔ NetI l := by
  unfold netOk NetI
  simp only [Bool.and_eq_true, decide_eq_true_eq, List.all_eq_true]
structure WldI (w : Wld) : Prop where
  cfg : CfgI w.cfg
  le : w.ends.length = 2
  ln : w.net.length = 2
  ends : ∀ i, i < 2 → EndI w.cfg (endAt w i)
  net : ∀ i, i < 2 → NetI (netAt w i)
  link : 0 ≤ w.link ∧ w.link ≤ 1
theorem two_of_length {α : Type} {l : List α} (h : l.length = 2) : ∃ a b, l = [a, b] := by
  match l, h with
  | [a, b], _ => exact ⟨a, b, rfl⟩
theorem endOk_of {c : Cfg} {x : End} (hx : EndI c x) : endOk c x = true := by
  unfold endOk
  simp only [Bool.and_eq_true, txOk_iff, rxOk_iff, ctxOk_iff, crxOk_iff, sdusOk_iff]
  exact ⟨⟨⟨⟨⟨hx.tx, hx.rx⟩, hx.ctx⟩, hx.crx⟩, hx.put⟩, hx.got⟩
theorem WldI.ok {w : Wld} (h : WldI w) : wldOk w = true := by
  obtain ⟨a, b, he⟩ := two_of_length h.le
  obtain ⟨m, n, hn⟩ := two_of_length h.ln
  have h0 := h.ends 0 (by omega); have h1 := h.ends 1 (by omega)
  have k0 := h.net 0 (by omega); have k1 := h.net 1 (by omega)
  simp only [endAt, netAt, he, hn, List.getD_cons_zero, List.getD_cons_succ] at h0 h1 k0 k1
  unfold wldOk
  simp only [he, hn, List.all_cons, List.all_nil, endOk_of h0, endOk_of h1, netOk_iff.mpr k0, netOk_iff.mpr k1, cfgOk_iff.mpr h.cfg, inB_iff.mpr h.link, List.length_cons, List.length_nil]
  decide
theorem endAt_setEnd {w : Wld} (hl : w.ends.length = 2) {i : Nat} (hi : i < 2) (e : End) (j : Nat) : endAt (setEnd w i e) j = if j = i then e else endAt w j := by
  unfold endAt setEnd
  simp only [List.getD_eq_getElem?_getD, List.getElem?_set]
  by_cases h : j = i
  · subst h; rw [if_pos rfl, if_pos (by omega), if_pos rfl]; rfl
  · rw [if_neg (fun e => h e.symm), if_neg h]
theorem netAt_setNet {w : Wld} (hl : w.net.length = 2) {i : Nat} (hi : i < 2) (m : List Msg) (j : Nat) : netAt (setNet w i m) j = if j = i then m else netAt w j := by
  unfold netAt setNet
  simp only [List.getD_eq_getElem?_getD, List.getElem?_set]
  by_cases h : j = i
  · subst h; rw [if_pos rfl, if_pos (by omega), if_pos rfl]; rfl
  · rw [if_neg (fun e => h e.symm), if_neg h]
theorem netAt_setEnd (w : Wld) (i : Nat) (e : End) (j : Nat) : netAt (setEnd w i e) j = netAt w j := rfl
theorem endAt_setNet (w : Wld) (i : Nat) (m : List Msg) (j : Nat) : endAt (setNet w i m) j = endAt w j := rfl
theorem cfg_setEnd (w : Wld) (i : Nat) (e : End) : (setEnd w i e).cfg = w.cfg := rfl
theorem cfg_setNet (w : Wld) (i : Nat) (m : List Msg) : (setNet w i m).cfg = w.cfg := rfl
theorem WldI.setEnd {w : Wld} (h : WldI w) {i : Nat} (hi : i < 2) {e : End} (he : EndI w.cfg e) : WldI (setEnd w i e) := by
  refine ⟨h.cfg, by simp [Go.Proofs.YtnkhjnieidlknaaGreat.setEnd, h.le], h.ln, ?_, h.net, h.link⟩
  intro j hj
  rw [endAt_setEnd h.le hi]
  split
  · exact he
  · exact h.ends j hj
theorem WldI.setNet {w : Wld} (h : WldI w) {i : Nat} (hi : i < 2) {m : List Msg} (hm : NetI m) : WldI (setNet w i m) := by
  refine ⟨h.cfg, h.le, by simp [Go.Proofs.YtnkhjnieidlknaaGreat.setNet, h.ln], h.ends, ?_, h.link⟩
  intro j hj
  rw [netAt_setNet h.ln hi]
  split
  · exact hm
  · exact h.net j hj
theorem wldNew_I {c : Cfg} (h : CfgI c) : WldI (wldNew c) := by
  unfold wldNew
  rw [if_pos (cfgOk_iff.mpr h)]
  have hw := h.win; have ht := h.tri
  have he : EndI c end0 := by
    refine ⟨⟨h, by simp [end0, tx0], by simp [end0, tx0], by simp [end0, tx0, far], by simp [end0, tx0]; omega, by simp [end0, tx0], by simp [end0, tx0], by simp [end0, tx0]; omega, by simp [end0, tx0], by simp [end0, tx0, numOf], ?_, ?_⟩, by simp [Low, end0, tx0], ⟨by simp [end0, rx0], by simp [end0, rx0], by simp [end0, rx0, numOf], .inl ⟨rfl, rfl⟩⟩, ⟨h, by simp [end0, ctx0], by simp [end0, ctx0], by simp [end0, ctx0], by simp [end0, ctx0], by simp [end0, ctx0], ?_⟩, ⟨by simp [end0, crx0], .inl ⟨rfl, rfl⟩⟩, ⟨by simp [end0], by simp [end0]⟩, ⟨by simp [end0], by simp [end0]⟩⟩
    all_goals (intro p hp; simp [end0, tx0, ctx0] at hp)
  refine ⟨h, rfl, rfl, ?_, ?_, by simp⟩
  · intro i hi
    have : i = 0 ∨ i = 1 := by omega
    rcases this with rfl | rfl <;> exact he
  · intro i hi
    have : i = 0 ∨ i = 1 := by omega
    rcases this with rfl | rfl <;> exact ⟨by simp [netAt], by simp [netAt]⟩
/-! what happens -/
theorem NetI.snoc {l : List Msg} (h : NetI l) (hl : l.length < 30) {m : Msg} (hm : m.bytes.length ≤ 15) : NetI (l ++ [m]) := by
  refine ⟨by simp; omega, fun x hx => ?_⟩
  rcases List.mem_append.mp hx with hx | hx
  · exact h.2 x hx
  · rw [List.mem_singleton.mp hx]; exact hm
theorem NetI.tail {m : Msg} {l : List Msg} (h : NetI (m :: l)) : NetI l := ⟨by have := h.1; simp at this; omega, fun x hx => h.2 x (List.mem_cons_of_mem _ hx)⟩
theorem say1_I {w : Wld} (h : WldI w) {who : Nat} (f : Frm) : WldI (say1 w who f) := by
  unfold say1
  split
  · rename_i hl
    exact h.setNet (by omega) ((h.net _ (by omega)).snoc hl (frmBytes_le f))
  · exact h
theorem says_I {who : Nat} (l : List Frm) : ∀ {w : Wld}, WldI w → WldI (says w who l) := by
  induction l with
  | nil => intro w h; exact h
  | cons f l ih => intro w h; exact ih (say1_I h f)
theorem sayO_I {w : Wld} (h : WldI w) {who : Nat} (o : Option Frm) : WldI (sayO w who o) := by
  cases o with
  | none => exact h
  | some f => exact say1_I h f
theorem tell_I {got l : List (List Int)} (h : SdusI got) (hl : ∀ m ∈ l, m.length ≤ 24) : SdusI (tell got l) := by
  unfold tell
  induction l generalizing got with
  | nil => exact h
  | cons m l ih =>
    rw [List.foldl_cons]
    refine ih ?_ (fun x hx => hl x (List.mem_cons_of_mem _ hx))
    split
    · rename_i hlt
      refine ⟨by simp; omega, fun x hx => ?_⟩
      rcases List.mem_append.mp hx with hx | hx
      · exact h.2 x hx
      · rw [List.mem_singleton.mp hx]; exact hl m List.mem_cons_self
    · exact h
theorem put_I {c : Cfg} {put : List (List Int)} {sdu : List Int} (h : SdusI put) (hl : put.length < 60) (hm : (sdu.length : Int) ≤ c.mtu) (hc : CfgI c) : SdusI (put ++ [sdu]) := by
  have := hc.mtu
  refine ⟨by simp; omega, fun x hx => ?_⟩
  rcases List.mem_append.mp hx with hx | hx
  · exact h.2 x hx
  · rw [List.mem_singleton.mp hx]; omega
theorem txPut_yes {c : Cfg} {t : Tx} {sdu : List Int} (h : (txPut c t sdu).2 = true) : (sdu.length : Int) ≤ c.mtu ∧ t.dead = false ∧ (txPut c t sdu).1 = { t with queue := t.queue ++ segCut sdu c.mps } := by
  unfold txPut at h ⊢
  split at h
  · cases h
  · rename_i h1
    split at h
    · cases h
    · rename_i h2
      rw [if_neg h1, if_neg h2]
      exact ⟨by omega, by simpa using fun hd => h1 (.inl hd), rfl⟩
theorem txPut_no {c : Cfg} {t : Tx} {sdu : List Int} (h : (txPut c t sdu).2 = false) : (txPut c t sdu).1 = t := by
  unfold txPut at h ⊢
  split
  · rfl
  · split
    · rfl
    · rename_i h1 h2; rw [if_neg h1, if_neg h2] at h; cases h
theorem crdPut_yes {c : Cfg} {t : CTx} {sdu : List Int} (h : (crdPut c t sdu).2 = true) : (sdu.length : Int) ≤ c.mtu ∧ t.dead = false ∧ (crdPut c t sdu).1 = { t with queue := t.queue ++ segCut sdu c.mps } := by
  unfold crdPut at h ⊢
  split at h
  · cases h
  · rename_i h1
    split at h
    · cases h
    · rename_i h2
      rw [if_neg h1, if_neg h2]
      exact ⟨by omega, by simpa using fun hd => h1 (.inl hd), rfl⟩
theorem byNum_I {g : Bool} {w : Wld} (h : WldI w) {who : Nat} (hw : who < 2) (e : Evt) : WldI (byNum g w who e) := by
  have hx := h.ends who hw
  unfold byNum
  simp only
  split
  · split
    · rename_i hl
      have hp := txPut_ok (sdu := e.data) hx.tx hx.low
      refine h.setEnd hw { hx with tx := hp.1, low := hp.2, put := ?_ }
      simp only
      split
      · rename_i hy; exact put_I hx.put hl (txPut_yes hy).1 h.cfg
      · exact hx.put
    · exact h
  · split
    · split
      · have hp := txSend_ok (g := g) (ack := (endAt w who).rx.expect) hx.tx hx.low
        refine sayO_I (h.setEnd hw ?_) _; exact { hx with tx := hp.1, low := hp.2 }
      · exact h
    · split
      · have hp := txTick_ok (ack := (endAt w who).rx.expect) (busy := (endAt w who).rx.busy) hx.tx hx.low
        refine sayO_I (h.setEnd hw ?_) _; exact { hx with tx := hp.1, low := hp.2 }
      · split
        · exact says_I _ (h.setEnd hw { hx with rx := rxBusy_ok hx.rx })
        · split
          · split
            · exact h
            · exact say1_I h _
          · exact h
theorem forCrd_I {w : Wld} (h : WldI w) {who : Nat} (hw : who < 2) (e : Evt) : WldI (forCrd w who e) := by
  have hx := h.ends who hw
  unfold forCrd
  simp only
  split
  · split
    · rename_i hl
      refine h.setEnd hw { hx with ctx := crdPut_ok hx.ctx, put := ?_ }
      simp only
      split
      · rename_i hy; exact put_I hx.put hl (crdPut_yes hy).1 h.cfg
      · exact hx.put
    · exact h
  · split
    · split
      · refine sayO_I (h.setEnd hw ?_) _; exact { hx with ctx := crdSend_ok hx.ctx }
      · exact h
    · split
      · split
        · refine sayO_I (h.setEnd hw ?_) _; exact { hx with crx := crdGrant_ok hx.crx }
        · exact h
      · exact h
theorem hearF_I {w : Wld} (h : WldI w) {who : Nat} (hw : who < 2) {f : Frm} (hf : frmOk f = true) : WldI (hearF w who f) := by
  have hx := h.ends who hw
  have hb := frmOk_bound hf
  unfold hearF
  simp only
  split
  · split
    · rename_i hk
      have h1 := txHear_ok (f := f) hx.tx hx.low (by omega)
      have h2 := rxHear_ok (c := w.cfg) hx.rx hf hk
      exact says_I _ (h.setEnd hw { hx with tx := h1.1, low := h1.2, rx := h2.1, got := tell_I hx.got h2.2.1 })
    · exact h
  · split
    · exact h.setEnd hw { hx with ctx := crdTake_ok hx.ctx (by omega) }
    · split
      · rename_i hk
        have hp : pieceOk f.seg f.len f.data.length = true := by
          unfold frmOk at hf
          rw [if_neg (by omega), if_neg (by omega), if_pos hk] at hf
          simp only [Bool.and_eq_true] at hf
          exact hf.2
        have h2 := crdHear_ok (c := w.cfg) hx.crx hp
        exact h.setEnd hw { hx with crx := h2.1, got := tell_I hx.got h2.2.1 }
      · exact h
theorem hear1_I {w : Wld} (h : WldI w) {who : Nat} (hw : who < 2) : WldI (hear1 w who) := by
  unfold hear1
  split
  · exact h
  · rename_i m l hn
    have hnet := h.net who hw
    rw [hn] at hnet
    split
    · exact h.setNet hw hnet.tail
    · rename_i f hf
      exact hearF_I (h.setNet hw hnet.tail) hw (frmRead_ok hf).1
theorem bendM_length (m : Msg) (a v : Int) : (bendM m a v).bytes.length = m.bytes.length := by
  unfold bendM; split
  · simp
  · rfl
theorem step_I {g : Bool} {w : Wld} (h : WldI w) (e : Evt) : WldI (step g w e) := by
  unfold step
  split
  · exact h
  · rename_i hw
    have hw' : e.who.toNat < 2 := by omega
    simp only
    have hnet := h.net _ hw'
    split
    · exact hear1_I h hw'
    · split
      · refine h.setNet hw' ?_
        exact ⟨by have := hnet.1; simp; omega, fun x hx => hnet.2 x (List.mem_of_mem_drop hx)⟩
      · split
        · split
          · exact h
          · rename_i m l hn
            rw [hn] at hnet
            refine h.setNet hw' ⟨by have := hnet.1; simpa using this, fun x hx => ?_⟩
            rcases List.mem_cons.mp hx with rfl | hx
            · rw [bendM_length]; exact hnet.2 m List.mem_cons_self
            · exact hnet.2 x (List.mem_cons_of_mem _ hx)
        · split
          · have hl := h.link
            refine ⟨h.cfg, h.le, rfl, h.ends, ?_, by simp only; omega⟩
            intro i hi
            have : i = 0 ∨ i = 1 := by omega
            rcases this with rfl | rfl <;> exact ⟨by simp [netAt], by simp [netAt]⟩
          · split
            · split
              · rename_i hc
                exact h.setNet hw' (hnet.snoc hc.1 hc.2)
              · exact h
            · split
              · exact byNum_I h hw' e
              · exact forCrd_I h hw' e
theorem run_I {g : Bool} {l : List Evt} : ∀ {w : Wld}, WldI w → WldI (run g w l) := by
  induction l with
  | nil => intro w h; exact h
  | cons e l ih => intro w h; exact ih (step_I h e)
end Go.Proofs.YtnkhjnieidlknaaGreat
