/- The model: what two ends are, and what happens to them, in plain Lean. · Sums: one turned byte is told; what is read of a frame's bytes is the frame. Plain lists and numbers. · Pieces: each is ok; one behind the other they are the message. Plain lists and numbers. · Two ends that are ok stay ok, whatever happens; the program and its reference do the same. Plain lists and numbers. · Two ends: what a step leaves as it is. Plain lists and numbers. · What values say: lists of things in memory that stays. -/
import Derived.Below
import Derived.Test.YtllafcmkppmdgaaGreatB4
namespace Go.Proofs.YtllafcmkppmdgaaGreat
set_option linter.unusedVariables false
set_option linter.unusedSimpArgs false
structure Cfg where
 mode : Int
 win : Int
 mps : Int
 mtu : Int
 tri : Int
 deriving DecidableEq
structure Part where
 seg : Int
 len : Int
 data : List Int
 deriving DecidableEq
structure Join where
 len : Int
 got : List Int
 deriving DecidableEq
structure Frm where
 kind : Int
 seq : Int
 ack : Int
 poll : Bool
 fin : Bool
 say : Int
 seg : Int
 len : Int
 data : List Int
 deriving DecidableEq
structure Tx where
 next : Int
 acked : Int
 flight : List Part
 sent : Int
 queue : List Part
 asks : Bool
 tries : Int
 held : Bool
 count : Int
 dead : Bool
 deriving DecidableEq
structure Rx where
 expect : Int
 count : Int
 join : Join
 again : Bool
 busy : Bool
 dead : Bool
 deriving DecidableEq
structure CTx where
 hav : Int
 queue : List Part
 granted : Int
 sent : Int
 dead : Bool
 deriving DecidableEq
structure CRx where
 out : Int
 join : Join
 dead : Bool
 deriving DecidableEq
structure End where
 tx : Tx
 rx : Rx
 ctx : CTx
 crx : CRx
 put : List (List Int)
 got : List (List Int)
 deriving DecidableEq
structure Msg where
 bent : Bool
 bytes : List Int
 deriving DecidableEq
structure Wld where
 cfg : Cfg
 ends : List End
 net : List (List Msg)
 link : Int
 deriving DecidableEq
structure Evt where
 kind : Int
 who : Int
 at_ : Int
 v : Int
 data : List Int
 deriving DecidableEq
def cfg0 : Cfg := ⟨0, 0, 0, 0, 0⟩
def join0 : Join := ⟨0, []⟩
def part0 : Part := ⟨0, 0, []⟩
def frm0 : Frm := ⟨0, 0, 0, false, false, 0, 0, 0, []⟩
def tx0 : Tx := ⟨0, 0, [], 0, [], false, 0, false, 0, false⟩
def rx0 : Rx := ⟨0, 0, join0, false, false, false⟩
def ctx0 : CTx := ⟨0, [], 0, 0, false⟩
def crx0 : CRx := ⟨0, join0, false⟩
def end0 : End := ⟨tx0, rx0, ctx0, crx0, [], []⟩
def wld0 : Wld := ⟨cfg0, [], [], 0⟩
/-! sums -/
def crcHalf (x : Nat) : Nat := if x % 2 = 1 then (x / 2) ^^^ 40961 else x / 2
def crcN : Nat → Nat → Nat
 | 0, x => x
 | k + 1, x => crcN k (crcHalf x)
def crcStep (s b : Nat) : Nat := crcN 8 (s ^^^ b)
def crcOf (l : List Int) : Nat := l.foldl (fun s b => crcStep s b.toNat) 0
def crcPut (l : List Int) : List Int := l ++ [((crcOf l % 256 : Nat) : Int), ((crcOf l / 256 : Nat) : Int)]
def crcCut (l : List Int) : Option (List Int) := if 2 ≤ l.length ∧ crcPut (l.take (l.length - 2)) = l then some (l.take (l.length - 2)) else none
/-! frames -/
def inB (n lo hi : Int) : Bool := decide (lo ≤ n) && decide (n ≤ hi)
def isNum (n : Int) : Bool := inB n 0 7
def pieceOk (seg len : Int) (n : Nat) : Bool :=
 if seg = 0 then decide (n ≤ 8) && decide (len = n) else if seg = 1 then inB n 1 8 && inB len (n + 1) 24 else if seg = 2 ∨ seg = 3 then inB n 1 8 && decide (len = 0) else false
def frmOk (f : Frm) : Bool :=
 if f.kind = 1 then isNum f.seq && isNum f.ack && !f.poll && decide (f.say = 0) && pieceOk f.seg f.len f.data.length
 else if f.kind = 2 then decide (f.seq = 0) && isNum f.ack && !(f.poll && f.fin) && inB f.say 0 2 && decide (f.seg = 0) && decide (f.len = 0) && decide (f.data = [])
 else if f.kind = 3 then decide (f.seq = 0) && decide (f.ack = 0) && !f.poll && !f.fin && decide (f.say = 0) && pieceOk f.seg f.len f.data.length
 else if f.kind = 4 then decide (f.seq = 0) && decide (f.ack = 0) && !f.poll && !f.fin && decide (f.say = 0) && decide (f.seg = 0) && inB f.len 1 255 && decide (f.data = [])
 else false
def bit (b : Bool) : Int := if b then 1 else 0
def frmHead (f : Frm) : List Int := [f.kind, f.seq * 16 + f.ack, bit f.poll + 2 * bit f.fin + 4 * f.say + 16 * f.seg, f.len, f.data.length]
def frmBytes (f : Frm) : List Int := if frmOk f then crcPut (frmHead f ++ f.data) else []
def frmOf (b : List Int) : Frm := ⟨b.getD 0 0, b.getD 1 0 / 16, b.getD 1 0 % 16, decide (b.getD 2 0 % 2 = 1), decide (b.getD 2 0 / 2 % 2 = 1), b.getD 2 0 / 4 % 4, b.getD 2 0 / 16, b.getD 3 0, b.drop 5⟩
def frmRead (l : List Int) : Option Frm := match crcCut l with
 | some b => if 5 ≤ b.length ∧ frmBytes (frmOf b) = l then some (frmOf b) else none
 | none => none
/-! numbers -/
def far (a b : Int) : Int := (b - a + 8) % 8
def numFar (a b : Int) : Int := if isNum a && isNum b then far a b else -1
def numNext (n : Int) : Int := Int.tmod (n + 1) 8
def numOf (n : Int) : Int := if n < 0 then -1 else n % 8
/-! pieces -/
def segAt (sdu : List Int) (most at_ : Nat) : Part :=
 ⟨if at_ = 0 then 1 else if at_ + most ≥ sdu.length then 3 else 2, if at_ = 0 then sdu.length else 0, (sdu.drop at_).take most⟩
def segGo (sdu : List Int) (most : Nat) : Nat → Nat → List Part
 | 0, _ => []
 | k + 1, at_ => if at_ < sdu.length then segAt sdu most at_ :: segGo sdu most k (at_ + most) else []
def segCut (sdu : List Int) (most : Int) : List Part :=
 if sdu.length > 24 ∨ most < 1 ∨ most > 8 then [] else if (sdu.length : Int) ≤ most then [⟨0, sdu.length, sdu⟩] else segGo sdu most.toNat sdu.length 0
def partOk (p : Part) : Bool := pieceOk p.seg p.len p.data.length
def joinOk (j : Join) : Bool := (decide (j.len = 0) && decide (j.got = [])) || (inB j.len 2 24 && inB j.got.length 1 (j.len - 1))
def segPut (j : Join) (p : Part) : Join × List Int × Int :=
 if p.seg = 0 ∧ j.len = 0 then (join0, j.got ++ p.data, 2)
 else if p.seg = 1 ∧ j.len = 0 then (⟨p.len, j.got ++ p.data⟩, [], 1)
 else if p.seg = 2 ∧ j.len > 0 ∧ ((j.got ++ p.data).length : Int) < j.len then (⟨j.len, j.got ++ p.data⟩, [], 1)
 else if p.seg = 3 ∧ j.len > 0 ∧ ((j.got ++ p.data).length : Int) = j.len then (join0, j.got ++ p.data, 2)
 else (join0, [], 3)
/-! what both use -/
def cfgOk (c : Cfg) : Bool := inB c.mode 1 2 && inB c.win 1 4 && inB c.mps 1 8 && inB c.mtu 1 24 && inB c.tri 1 5
/-! who sends by numbers -/
def partsOk (c : Cfg) (l : List Part) : Bool := l.all fun p => partOk p && decide ((p.data.length : Int) ≤ c.mps)
def txOk (c : Cfg) (t : Tx) : Bool :=
 cfgOk c && isNum t.acked && isNum t.next && decide (far t.acked t.next = t.flight.length) && decide ((t.flight.length : Int) ≤ c.win) && inB t.sent 0 t.flight.length && decide (t.queue.length ≤ 24) &&
  inB t.tries 0 c.tri && inB t.count 0 9999 && decide (numOf t.count = t.acked) && partsOk c t.flight && partsOk c t.queue
def txPut (c : Cfg) (t : Tx) (sdu : List Int) : Tx × Bool :=
 if t.dead = true ∨ (sdu.length : Int) > c.mtu then (t, false)
 else if t.queue.length + (segCut sdu c.mps).length > 24 then (t, false)
 else ({ t with queue := t.queue ++ segCut sdu c.mps }, true)
def dataFrm (p : Part) (seq ack : Int) : Frm := ⟨1, seq, ack, false, false, 0, p.seg, p.len, p.data⟩
def txTop (g : Bool) (t : Tx) : Bool := if g then decide (t.count + t.flight.length ≥ 9999) else decide (t.count + t.flight.length = 9999)
def txStops (g : Bool) (c : Cfg) (t : Tx) : Bool :=
 t.dead || t.asks || t.held || (decide (t.sent = t.flight.length) && (decide ((t.flight.length : Int) = c.win) || decide (t.queue = []) || txTop g t))
def txMove (t : Tx) : Tx := if t.sent = t.flight.length then { t with flight := t.flight ++ t.queue.take 1, queue := t.queue.drop 1, next := numNext t.next } else t
def txSend (g : Bool) (c : Cfg) (t : Tx) (ack : Int) : Tx × Option Frm :=
 if txStops g c t then (t, none)
 else ({ txMove t with sent := t.sent + 1 }, some (dataFrm ((txMove t).flight.getD t.sent.toNat part0) ((t.acked + t.sent) % 8) ack))
def txHear (t : Tx) (f : Frm) : Tx :=
 if t.dead = true then t
 else if far t.acked f.ack > t.flight.length then { t with dead := true }
 else
  let n := far t.acked f.ack
  let ans := f.fin && t.asks
  { t with
   flight := t.flight.drop n.toNat
   acked := f.ack
   count := t.count + n
   held := if f.kind = 2 then decide (f.say = 2) else t.held
   asks := t.asks && !f.fin
   tries := if ans then 0 else t.tries
   sent := if ans then 0 else if f.kind = 2 ∧ f.say = 1 ∧ t.asks = false then 0 else max 0 (t.sent - n) }
def goWait (b : Bool) : Int := if b then 2 else 0
def sayFrm (ack : Int) (poll fin : Bool) (say : Int) : Frm := ⟨2, 0, ack, poll, fin, say, 0, 0, []⟩
def txTick (c : Cfg) (t : Tx) (ack : Int) (busy : Bool) : Tx × Option Frm :=
 if t.dead = true ∨ (t.flight = [] ∧ t.held = false ∧ t.asks = false) then (t, none)
 else if t.tries = c.tri then ({ t with dead := true }, none)
 else ({ t with asks := true, tries := t.tries + 1 }, some (sayFrm ack true false (goWait busy)))
/-! who hears by numbers -/
def rxOk (r : Rx) : Bool := isNum r.expect && inB r.count 0 9999 && decide (numOf r.count = r.expect) && joinOk r.join
def rxTake (c : Cfg) (r : Rx) (f : Frm) : Rx × List (List Int) :=
 if f.len > c.mtu ∨ (f.data.length : Int) > c.mps ∨ r.count = 9999 then ({ r with dead := true }, [])
 else
  let q := segPut r.join ⟨f.seg, f.len, f.data⟩
  if q.2.2 = 3 then ({ r with join := q.1, dead := true }, [])
  else ({ r with join := q.1, expect := numNext r.expect, count := r.count + 1, again := false }, if q.2.2 = 2 then [q.2.1] else [])
def rxHear (c : Cfg) (r : Rx) (f : Frm) : Rx × List (List Int) × List Frm :=
 if r.dead = true then (r, [], [])
 else if f.kind = 2 then (if f.poll = true then ({ r with again := false }, [], [sayFrm r.expect false true (goWait r.busy)]) else (r, [], []))
 else if r.busy = true then (r, [], [sayFrm r.expect false false 2])
 else if f.seq = r.expect then ((rxTake c r f).1, (rxTake c r f).2, [])
 else if far r.expect f.seq < c.win ∧ r.again = false then ({ r with again := true }, [], [sayFrm r.expect false false 1])
 else (r, [], [])
def rxBusy (r : Rx) (busy : Bool) : Rx × List Frm :=
 if r.busy = busy ∨ r.dead = true then (r, []) else ({ r with busy := busy, again := false }, [sayFrm r.expect false false (goWait busy)])
def rxAck (r : Rx) : Frm := sayFrm r.expect false false (goWait r.busy)
/-! for credits -/
def ctxOk (c : Cfg) (t : CTx) : Bool := cfgOk c && inB t.hav 0 255 && inB t.granted 0 9999 && inB t.sent 0 9999 && decide (t.hav = t.granted - t.sent) && decide (t.queue.length ≤ 24) && partsOk c t.queue
def crxOk (r : CRx) : Bool := inB r.out 0 255 && joinOk r.join
def crdPut (c : Cfg) (t : CTx) (sdu : List Int) : CTx × Bool :=
 if t.dead = true ∨ (sdu.length : Int) > c.mtu then (t, false)
 else if t.queue.length + (segCut sdu c.mps).length > 24 then (t, false)
 else ({ t with queue := t.queue ++ segCut sdu c.mps }, true)
def crdSend (t : CTx) : CTx × Option Frm :=
 match t.queue with
 | [] => (t, none)
 | p :: q => if t.dead = true ∨ t.hav = 0 ∨ t.sent = 9999 then (t, none) else ({ t with queue := q, hav := t.hav - 1, sent := t.sent + 1 }, some ⟨3, 0, 0, false, false, 0, p.seg, p.len, p.data⟩)
def crdTake (t : CTx) (n : Int) : CTx :=
 if t.dead = true then t else if t.hav + n > 255 ∨ t.granted + n > 9999 then { t with dead := true } else { t with hav := t.hav + n, granted := t.granted + n }
def crdGrant (r : CRx) : CRx × Option Frm :=
 if r.dead = true ∨ r.out ≥ 6 then (r, none) else ({ r with out := 6 }, some ⟨4, 0, 0, false, false, 0, 0, 6 - r.out, []⟩)
def crdHear (c : Cfg) (r : CRx) (f : Frm) : CRx × List (List Int) :=
 if r.dead = true then (r, [])
 else if r.out = 0 ∨ f.len > c.mtu ∨ (f.data.length : Int) > c.mps then ({ r with dead := true }, [])
 else
  let q := segPut r.join ⟨f.seg, f.len, f.data⟩
  if q.2.2 = 3 then (⟨r.out - 1, q.1, true⟩, []) else (⟨r.out - 1, q.1, r.dead⟩, if q.2.2 = 2 then [q.2.1] else [])
/-! two ends -/
def sdusOk (l : List (List Int)) : Bool := decide (l.length ≤ 60) && l.all fun b => decide (b.length ≤ 24)
def endOk (c : Cfg) (e : End) : Bool := txOk c e.tx && rxOk e.rx && ctxOk c e.ctx && crxOk e.crx && sdusOk e.put && sdusOk e.got
def netOk (l : List Msg) : Bool := decide (l.length ≤ 30) && l.all fun m => decide (m.bytes.length ≤ 15)
def wldOk (w : Wld) : Bool := cfgOk w.cfg && decide (w.ends.length = 2) && decide (w.net.length = 2) && inB w.link 0 1 && w.ends.all (endOk w.cfg) && w.net.all netOk
def wldNew (c : Cfg) : Wld := if cfgOk c then ⟨c, [end0, end0], [[], []], 0⟩ else wld0
def endAt (w : Wld) (i : Nat) : End := w.ends.getD i end0
def netAt (w : Wld) (i : Nat) : List Msg := w.net.getD i []
def setEnd (w : Wld) (i : Nat) (e : End) : Wld := { w with ends := w.ends.set i e }
def setNet (w : Wld) (i : Nat) (l : List Msg) : Wld := { w with net := w.net.set i l }
def say1 (w : Wld) (who : Nat) (f : Frm) : Wld := if (netAt w (1 - who)).length < 30 then setNet w (1 - who) (netAt w (1 - who) ++ [⟨false, frmBytes f⟩]) else w
def says (w : Wld) (who : Nat) (l : List Frm) : Wld := l.foldl (fun w f => say1 w who f) w
def sayO (w : Wld) (who : Nat) : Option Frm → Wld
 | none => w
 | some f => say1 w who f
def tell (got : List (List Int)) (l : List (List Int)) : List (List Int) := l.foldl (fun g b => if g.length < 60 then g ++ [b] else g) got
def byNum (g : Bool) (w : Wld) (who : Nat) (e : Evt) : Wld :=
 let x := endAt w who
 if e.kind = 1 then
  if x.put.length < 60 then (let q := txPut w.cfg x.tx e.data; setEnd w who { x with tx := q.1, put := if q.2 then x.put ++ [e.data] else x.put }) else w
 else if e.kind = 2 then
  if (netAt w (1 - who)).length < 30 then (let q := txSend g w.cfg x.tx x.rx.expect; sayO (setEnd w who { x with tx := q.1 }) who q.2) else w
 else if e.kind = 3 then (let q := txTick w.cfg x.tx x.rx.expect x.rx.busy; sayO (setEnd w who { x with tx := q.1 }) who q.2)
 else if e.kind = 4 then (let q := rxBusy x.rx (decide (e.v = 1)); says (setEnd w who { x with rx := q.1 }) who q.2)
 else if e.kind = 5 then (if x.rx.dead = true then w else say1 w who (rxAck x.rx))
 else w
def forCrd (w : Wld) (who : Nat) (e : Evt) : Wld :=
 let x := endAt w who
 if e.kind = 1 then
  if x.put.length < 60 then (let q := crdPut w.cfg x.ctx e.data; setEnd w who { x with ctx := q.1, put := if q.2 then x.put ++ [e.data] else x.put }) else w
 else if e.kind = 2 then
  if (netAt w (1 - who)).length < 30 then (let q := crdSend x.ctx; sayO (setEnd w who { x with ctx := q.1 }) who q.2) else w
 else if e.kind = 6 then
  if (netAt w (1 - who)).length < 30 then (let q := crdGrant x.crx; sayO (setEnd w who { x with crx := q.1 }) who q.2) else w
 else w
def hearF (w : Wld) (who : Nat) (f : Frm) : Wld :=
 let x := endAt w who
 if w.cfg.mode = 1 then
  if f.kind = 1 ∨ f.kind = 2 then
   let q := rxHear w.cfg x.rx f
   says (setEnd w who { x with tx := txHear x.tx f, rx := q.1, got := tell x.got q.2.1 }) who q.2.2
  else w
 else if f.kind = 4 then setEnd w who { x with ctx := crdTake x.ctx f.len }
 else if f.kind = 3 then (let q := crdHear w.cfg x.crx f; setEnd w who { x with crx := q.1, got := tell x.got q.2 })
 else w
def hear1 (w : Wld) (who : Nat) : Wld := match netAt w who with
 | [] => w
 | m :: l => match frmRead m.bytes with
  | none => setNet w who l
  | some f => hearF (setNet w who l) who f
def bendM (m : Msg) (at_ v : Int) : Msg :=
 if 0 ≤ at_ ∧ at_ < m.bytes.length ∧ 1 ≤ v ∧ v ≤ 255 ∧ m.bent = false then ⟨true, m.bytes.set at_.toNat ((((m.bytes.getD at_.toNat 0).toNat ^^^ v.toNat : Nat)) : Int)⟩ else m
def step (g : Bool) (w : Wld) (e : Evt) : Wld :=
 if e.who < 0 ∨ e.who > 1 then w
 else
  let who := e.who.toNat
  if e.kind = 7 then hear1 w who
  else if e.kind = 8 then setNet w who ((netAt w who).drop 1)
  else if e.kind = 9 then (match netAt w who with
   | [] => w
   | m :: l => setNet w who (bendM m e.at_ e.v :: l))
  else if e.kind = 10 then { w with net := [[], []], link := 1 - w.link }
  else if e.kind = 11 then (if (netAt w who).length < 30 ∧ e.data.length ≤ 15 then setNet w who (netAt w who ++ [⟨false, e.data⟩]) else w)
  else if w.cfg.mode = 1 then byNum g w who e
  else forCrd w who e
def run (g : Bool) (w : Wld) (l : List Evt) : Wld := l.foldl (step g) w
def evt (kind who : Int) : Evt := ⟨kind, who, 0, 0, []⟩
def hearN (g : Bool) (w : Wld) (who : Int) : Nat → Wld
 | 0 => w
 | k + 1 => hearN g (step g w (evt 7 who)) who k
def hearAll (g : Bool) (w : Wld) (who : Int) : Wld := hearN g w who (netAt w who.toNat).length
def heard (g : Bool) (w : Wld) : Wld := hearAll g (hearAll g (hearAll g (hearAll g w 0) 1) 0) 1
def sendN (g : Bool) (w : Wld) (who : Int) : Nat → Wld
 | 0 => w
 | k + 1 => sendN g (step g w (evt 2 who)) who k
def half (g : Bool) (w : Wld) (who : Int) : Wld := heard g (step g (heard g (sendN g w who 10)) (evt 5 (1 - who)))
def both (g : Bool) (w : Wld) (kind : Int) : Wld := heard g (step g (heard g (step g w (evt kind 0))) (evt kind 1))
def round (g : Bool) (w : Wld) : Wld := half g (half g (both g (both g (both g w 4) 6) 3) 0) 1
def rounds (g : Bool) (w : Wld) : Nat → Wld
 | 0 => w
 | k + 1 => rounds g (round g w) k
theorem crcHalf_lt {x : Nat} (h : x < 65536) : crcHalf x < 65536 := by
 unfold crcHalf
 split
 ·exact Nat.xor_lt_two_pow (n := 16) (by omega) (by omega)
 ·omega
theorem crcN_lt (k : Nat) {x : Nat} (h : x < 65536) : crcN k x < 65536 := by
 induction k generalizing x with
 | zero => exact h
 | succ k ih => exact ih (crcHalf_lt h)
theorem crcStep_lt {s b : Nat} (hs : s < 65536) (hb : b < 256) : crcStep s b < 65536 :=
 crcN_lt 8 (Nat.xor_lt_two_pow (n := 16) (by omega) (by omega))
def Bys (l : List Int) : Prop := ∀ x ∈ l, 0 ≤ x ∧ x ≤ 255
def crcFrom (s : Nat) (l : List Int) : Nat := l.foldl (fun s b => crcStep s b.toNat) s
theorem crcFrom_lt {s : Nat} {l : List Int} (hs : s < 65536) (hl : Bys l) : crcFrom s l < 65536 := by
 induction l generalizing s with
 | nil => exact hs
 | cons x l ih =>
  have hx := hl x List.mem_cons_self
  exact ih (crcStep_lt hs (by omega)) (fun y hy => hl y (List.mem_cons_of_mem _ hy))
theorem crcOf_lt {l : List Int} (hl : Bys l) : crcOf l < 65536 := crcFrom_lt (by omega) hl
theorem Bys.append {l m : List Int} (h : Bys l) (k : Bys m) : Bys (l ++ m) := fun x hx => (List.mem_append.mp hx).elim (h x) (k x)
theorem Bys.left {l m : List Int} (h : Bys (l ++ m)) : Bys l := fun x hx => h x (List.mem_append_left _ hx)
theorem Bys.right {l m : List Int} (h : Bys (l ++ m)) : Bys m := fun x hx => h x (List.mem_append_right _ hx)
theorem Bys.take {l : List Int} (h : Bys l) (n : Nat) : Bys (l.take n) := fun x hx => h x (List.mem_of_mem_take hx)
theorem Bys.drop {l : List Int} (h : Bys l) (n : Nat) : Bys (l.drop n) := fun x hx => h x (List.mem_of_mem_drop hx)
theorem Bys.crcPut {l : List Int} (h : Bys l) : Bys (crcPut l) := by
 have hc := crcOf_lt h
 unfold Go.Proofs.YtllafcmkppmdgaaGreat.crcPut
 refine h.append ?_
 intro x hx
 simp only [List.mem_cons, List.not_mem_nil, or_false] at hx
 rcases hx with rfl | rfl <;> omega
theorem crcPut_length (l : List Int) : (crcPut l).length = l.length + 2 := by simp [crcPut]
theorem crcPut_take (l : List Int) : (crcPut l).take ((crcPut l).length - 2) = l := by
 rw [crcPut_length]; simp [crcPut]
theorem crcCut_some {l b : List Int} (h : crcCut l = some b) : l = crcPut b := by
 unfold crcCut at h
 split at h
 ·rename_i hc; injection h with h; rw [← h]; exact hc.2.symm
 ·cases h
/-! frames -/
theorem inB_iff {n lo hi : Int} : inB n lo hi = true ↔ lo ≤ n ∧ n ≤ hi := by simp [inB]
theorem isNum_iff {n : Int} : isNum n = true ↔ 0 ≤ n ∧ n ≤ 7 := inB_iff
theorem pieceOk_iff {seg len : Int} {n : Nat} : pieceOk seg len n = true ↔ (seg = 0 ∧ n ≤ 8 ∧ len = n) ∨ (seg = 1 ∧ 1 ≤ n ∧ n ≤ 8 ∧ (n : Int) + 1 ≤ len ∧ len ≤ 24) ∨ ((seg = 2 ∨ seg = 3) ∧ 1 ≤ n ∧ n ≤ 8 ∧ len = 0) := by
 unfold pieceOk
 by_cases h0 : seg = 0
 ·rw [if_pos h0]; simp only [Bool.and_eq_true, decide_eq_true_eq]; omega
 ·rw [if_neg h0]
  by_cases h1 : seg = 1
  ·rw [if_pos h1]; simp only [Bool.and_eq_true, inB_iff]; omega
  ·rw [if_neg h1]
   by_cases h2 : seg = 2 ∨ seg = 3
   ·rw [if_pos h2]; simp only [Bool.and_eq_true, inB_iff, decide_eq_true_eq]; omega
   ·rw [if_neg h2]; simp only [Bool.false_eq_true, false_iff]; omega
theorem pieceOk_bound {seg len : Int} {n : Nat} (h : pieceOk seg len n = true) : 0 ≤ seg ∧ seg ≤ 3 ∧ 0 ≤ len ∧ len ≤ 24 ∧ n ≤ 8 := by
 have := pieceOk_iff.mp h; omega
theorem frmOk_bound {f : Frm} (h : frmOk f = true) : (1 ≤ f.kind ∧ f.kind ≤ 4) ∧ (0 ≤ f.seq ∧ f.seq ≤ 7) ∧ (0 ≤ f.ack ∧ f.ack ≤ 7) ∧ (0 ≤ f.say ∧ f.say ≤ 2) ∧ (0 ≤ f.seg ∧ f.seg ≤ 3) ∧ (0 ≤ f.len ∧ f.len ≤ 255) ∧ f.data.length ≤ 8 := by
 unfold frmOk at h
 split at h
 ·rename_i hk
  simp only [Bool.and_eq_true, isNum_iff, decide_eq_true_eq] at h
  have := pieceOk_bound h.2
  omega
 ·split at h
  ·rename_i hk
   simp only [Bool.and_eq_true, isNum_iff, inB_iff, decide_eq_true_eq] at h
   obtain ⟨⟨⟨⟨⟨⟨h1, h2⟩, h3⟩, h4⟩, h5⟩, h6⟩, h7⟩ := h
   simp only [h7, List.length_nil]; omega
  ·split at h
   ·rename_i hk
    simp only [Bool.and_eq_true, decide_eq_true_eq] at h
    have := pieceOk_bound h.2
    omega
   ·split at h
    ·rename_i hk
     simp only [Bool.and_eq_true, inB_iff, decide_eq_true_eq] at h
     obtain ⟨⟨⟨⟨⟨⟨⟨h1, h2⟩, h3⟩, h4⟩, h5⟩, h6⟩, h7⟩, h8⟩ := h
     simp only [h8, List.length_nil]; omega
    ·cases h
theorem bit_01 (b : Bool) : 0 ≤ bit b ∧ bit b ≤ 1 := by cases b <;> simp [bit]
theorem frmHead_bys {f : Frm} (h : frmOk f = true) : Bys (frmHead f) := by
 have hb := frmOk_bound h
 have h1 := bit_01 f.poll
 have h2 := bit_01 f.fin
 intro x hx
 simp only [frmHead, List.mem_cons, List.not_mem_nil, or_false] at hx
 rcases hx with rfl | rfl | rfl | rfl | rfl <;> omega
theorem frmBytes_ok {f : Frm} (h : frmOk f = true) : frmBytes f = crcPut (frmHead f ++ f.data) := by unfold frmBytes; rw [if_pos h]
theorem frmBytes_length {f : Frm} (h : frmOk f = true) : (frmBytes f).length = f.data.length + 7 := by
 rw [frmBytes_ok h, crcPut_length]; simp [frmHead]
theorem frmBytes_le (f : Frm) : (frmBytes f).length ≤ 15 := by
 by_cases h : frmOk f = true
 ·have := frmOk_bound h; rw [frmBytes_length h]; omega
 ·unfold frmBytes; rw [if_neg h]; simp
theorem frmBytes_bys {f : Frm} (h : frmOk f = true) (hd : Bys f.data) : Bys (frmBytes f) := by
 rw [frmBytes_ok h]; exact ((frmHead_bys h).append hd).crcPut
theorem frmRead_some {l : List Int} {f : Frm} (h : frmRead l = some f) : frmBytes f = l ∧ (l ≠ [] → frmOk f = true) := by
 unfold frmRead at h
 split at h
 ·rename_i bb _
  split at h
  ·rename_i hc
   injection h with h
   subst h
   refine ⟨hc.2, fun hn => ?_⟩
   by_cases ho : frmOk (frmOf bb) = true
   ·exact ho
   ·exfalso
    have := hc.2
    unfold frmBytes at this
    rw [if_neg ho] at this
    exact hn this.symm
  ·cases h
 ·cases h
theorem frmRead_ok {l : List Int} {f : Frm} (h : frmRead l = some f) : frmOk f = true ∧ frmBytes f = l := by
 obtain ⟨h1, h2⟩ := frmRead_some h
 refine ⟨h2 ?_, h1⟩
 rintro rfl
 simp [frmRead, crcCut] at h
theorem segGo_mem {sdu : List Int} {most : Nat} (hm : 1 ≤ most) {k at_ : Nat} {p : Part} (hp : p ∈ segGo sdu most k at_) : ∃ a, at_ ≤ a ∧ a < sdu.length ∧ (a = at_ ∨ at_ + most ≤ a) ∧ p = segAt sdu most a := by
 induction k generalizing at_ with
 | zero => simp [segGo] at hp
 | succ k ih =>
  rw [segGo] at hp
  split at hp
  ·rename_i hlt
   rcases List.mem_cons.mp hp with rfl | hp
   ·exact ⟨at_, Nat.le_refl _, hlt, .inl rfl, rfl⟩
   ·obtain ⟨a, h1, h2, h3, h4⟩ := ih hp
    exact ⟨a, by omega, h2, .inr (by omega), h4⟩
  ·simp at hp
theorem segAt_ok {sdu : List Int} {most a : Nat} (h24 : sdu.length ≤ 24) (h1 : 1 ≤ most) (h8 : most ≤ 8) (hl : most < sdu.length) (ha : a < sdu.length) (h0 : a = 0 ∨ most ≤ a) :
  partOk (segAt sdu most a) = true ∧ (segAt sdu most a).data.length ≤ most ∧ (segAt sdu most a).len ≤ sdu.length := by
 have hd : (segAt sdu most a).data.length = min most (sdu.length - a) := by simp [segAt]
 unfold partOk
 rw [pieceOk_iff, hd]
 by_cases h : a = 0
 ·subst h
  simp only [segAt, if_true]
  refine ⟨?_, ?_, ?_⟩ <;> (try simp only [true_and, and_true, or_true, true_or, false_or, or_false]) <;> omega
 ·by_cases he : a + most ≥ sdu.length
  ·simp only [segAt, if_neg h, if_pos he]
   refine ⟨?_, ?_, ?_⟩ <;> (try simp only [true_and, and_true, or_true, true_or, false_or, or_false]) <;> omega
  ·simp only [segAt, if_neg h, if_neg he]
   refine ⟨?_, ?_, ?_⟩ <;> (try simp only [true_and, and_true, or_true, true_or, false_or, or_false]) <;> omega
theorem segCut_mem {sdu : List Int} {most : Int} {p : Part} (hp : p ∈ segCut sdu most) : partOk p = true ∧ (p.data.length : Int) ≤ most ∧ p.len ≤ sdu.length ∧ (Bys sdu → Bys p.data) := by
 unfold segCut at hp
 split at hp
 ·simp at hp
 ·rename_i hc
  split at hp
  ·rename_i hle
   rw [List.mem_singleton] at hp
   subst hp
   refine ⟨?_, hle, Int.le_refl _, fun h => h⟩
   unfold partOk; rw [pieceOk_iff]; left; refine ⟨rfl, ?_, rfl⟩; simp only; omega
  ·rename_i hle
   obtain ⟨a, h1, h2, h3, rfl⟩ := segGo_mem (by omega) hp
   obtain ⟨k1, k2, k3⟩ := segAt_ok (sdu := sdu) (most := most.toNat) (a := a) (by omega) (by omega) (by omega) (by omega) h2 (by omega)
   refine ⟨k1, by omega, k3, fun h => ?_⟩
   exact (h.drop a).take most.toNat
theorem segGo_length (sdu : List Int) (most : Nat) (k at_ : Nat) : (segGo sdu most k at_).length ≤ k := by
 induction k generalizing at_ with
 | zero => simp [segGo]
 | succ k ih =>
  rw [segGo]
  split
  ·have := ih (at_ + most); simp only [List.length_cons]; omega
  ·simp
theorem segCut_length (sdu : List Int) (most : Int) : (segCut sdu most).length ≤ 24 := by
 unfold segCut
 split
 ·simp
 ·split
  ·simp
  ·have := segGo_length sdu most.toNat sdu.length 0; omega
structure CfgI (c : Cfg) : Prop where
 mode : c.mode = 1 ∨ c.mode = 2
 win : 1 ≤ c.win ∧ c.win ≤ 4
 mps : 1 ≤ c.mps ∧ c.mps ≤ 8
 mtu : 1 ≤ c.mtu ∧ c.mtu ≤ 24
 tri : 1 ≤ c.tri ∧ c.tri ≤ 5
theorem cfgOk_iff {c : Cfg} : cfgOk c = true ↔ CfgI c := by
 unfold cfgOk
 simp only [Bool.and_eq_true, inB_iff]
 constructor
 ·rintro ⟨⟨⟨⟨h1, h2⟩, h3⟩, h4⟩, h5⟩; exact ⟨by omega, h2, h3, h4, h5⟩
 ·rintro ⟨h1, h2, h3, h4, h5⟩; exact ⟨⟨⟨⟨by omega, h2⟩, h3⟩, h4⟩, h5⟩
def PartsI (c : Cfg) (l : List Part) : Prop := ∀ p ∈ l, partOk p = true ∧ (p.data.length : Int) ≤ c.mps
theorem partsOk_iff {c : Cfg} {l : List Part} : partsOk c l = true ↔ PartsI c l := by
 unfold partsOk PartsI
 simp only [List.all_eq_true, Bool.and_eq_true, decide_eq_true_eq]
theorem PartsI.append {c : Cfg} {l m : List Part} (h : PartsI c l) (k : PartsI c m) : PartsI c (l ++ m) := fun p hp => (List.mem_append.mp hp).elim (h p) (k p)
theorem PartsI.drop {c : Cfg} {l : List Part} (h : PartsI c l) (n : Nat) : PartsI c (l.drop n) := fun p hp => h p (List.mem_of_mem_drop hp)
theorem PartsI.take {c : Cfg} {l : List Part} (h : PartsI c l) (n : Nat) : PartsI c (l.take n) := fun p hp => h p (List.mem_of_mem_take hp)
structure TxI (c : Cfg) (t : Tx) : Prop where
 cfg : CfgI c
 acked : 0 ≤ t.acked ∧ t.acked ≤ 7
 next : 0 ≤ t.next ∧ t.next ≤ 7
 far : far t.acked t.next = t.flight.length
 win : (t.flight.length : Int) ≤ c.win
 sent : 0 ≤ t.sent ∧ t.sent ≤ t.flight.length
 queue : t.queue.length ≤ 24
 tries : 0 ≤ t.tries ∧ t.tries ≤ c.tri
 count : 0 ≤ t.count ∧ t.count ≤ 9999
 num : numOf t.count = t.acked
 fl : PartsI c t.flight
 qu : PartsI c t.queue
theorem txOk_iff {c : Cfg} {t : Tx} : txOk c t = true ↔ TxI c t := by
 unfold txOk
 simp only [Bool.and_eq_true, inB_iff, isNum_iff, decide_eq_true_eq, cfgOk_iff, partsOk_iff]
 constructor
 ·rintro ⟨⟨⟨⟨⟨⟨⟨⟨⟨⟨⟨h1, h2⟩, h3⟩, h4⟩, h5⟩, h6⟩, h7⟩, h8⟩, h9⟩, h10⟩, h11⟩, h12⟩
  exact ⟨h1, h2, h3, h4, h5, h6, h7, h8, h9, h10, h11, h12⟩
 ·rintro ⟨h1, h2, h3, h4, h5, h6, h7, h8, h9, h10, h11, h12⟩
  exact ⟨⟨⟨⟨⟨⟨⟨⟨⟨⟨⟨h1, h2⟩, h3⟩, h4⟩, h5⟩, h6⟩, h7⟩, h8⟩, h9⟩, h10⟩, h11⟩, h12⟩
def Low (t : Tx) : Prop := t.count + t.flight.length ≤ 9999
theorem segCut_parts {c : Cfg} (sdu : List Int) : PartsI c (segCut sdu c.mps) := fun p hp => ⟨(segCut_mem hp).1, (segCut_mem hp).2.1⟩
theorem txPut_ok {c : Cfg} {t : Tx} {sdu : List Int} (h : TxI c t) (hl : Low t) : TxI c (txPut c t sdu).1 ∧ Low (txPut c t sdu).1 := by
 unfold txPut
 split
 ·exact ⟨h, hl⟩
 ·split
  ·exact ⟨h, hl⟩
  ·rename_i h2
   refine ⟨{ h with queue := ?_, qu := h.qu.append (segCut_parts sdu) }, hl⟩
   simp only [List.length_append]; omega
theorem txMove_ok {c : Cfg} {t : Tx} (h : TxI c t) (hl : Low t) (hw : t.sent = t.flight.length → (t.flight.length : Int) ≠ c.win ∧ t.queue ≠ [] ∧ t.count + t.flight.length ≠ 9999) : TxI c (txMove t) ∧ Low (txMove t) ∧ (txMove t).sent = t.sent ∧ t.sent < (txMove t).flight.length := by
 unfold txMove
 split
 ·rename_i hs
  obtain ⟨h1, h2, h3⟩ := hw hs
  obtain ⟨p, q, hq⟩ := List.exists_cons_of_ne_nil h2
  have hc := h.cfg.win
  have hwn := h.win
  have hf := h.far
  have hse := h.sent
  have h1a := h.acked
  have h1n := h.next
  have hqq := h.qu
  have hql := h.queue
  unfold Low at hl
  unfold Go.Proofs.YtllafcmkppmdgaaGreat.far at hf
  have hnx : numNext t.next = (t.next + 1) % 8 := by unfold numNext; exact Int.tmod_eq_emod_of_nonneg (by omega)
  rw [hq] at hqq hql
  refine ⟨⟨h.cfg, h.acked, ?_, ?_, ?_, ?_, ?_, h.tries, h.count, h.num, ?_, ?_⟩, ?_, rfl, ?_⟩
  ·simp only [hnx]; omega
  ·simp only [hnx, hq, List.length_append, List.length_take, List.length_cons]; unfold Go.Proofs.YtllafcmkppmdgaaGreat.far; omega
  ·simp only [hq, List.length_append, List.length_take, List.length_cons]; omega
  ·simp only [hq, List.length_append, List.length_take, List.length_cons]; omega
  ·simp only [hq, List.drop_succ_cons, List.drop_zero]; simp only [List.length_cons] at hql; omega
  ·refine h.fl.append ?_; exact h.qu.take 1
  ·exact h.qu.drop 1
  ·unfold Low; simp only [hq, List.length_append, List.length_take, List.length_cons]; omega
  ·simp only [hq, List.length_append, List.length_take, List.length_cons]; omega
 ·rename_i hs
  refine ⟨h, hl, rfl, ?_⟩
  have := h.sent
  omega
theorem txStops_no {g : Bool} {c : Cfg} {t : Tx} (h : txStops g c t = false) : t.dead = false ∧ t.asks = false ∧ t.held = false ∧ (t.sent = t.flight.length → (t.flight.length : Int) ≠ c.win ∧ t.queue ≠ [] ∧ t.count + t.flight.length ≠ 9999) := by
 unfold txStops at h
 simp only [Bool.or_eq_false_iff, Bool.and_eq_false_iff, decide_eq_false_iff_not] at h
 obtain ⟨⟨⟨h1, h2⟩, h3⟩, h4⟩ := h
 refine ⟨h1, h2, h3, fun hs => ?_⟩
 rcases h4 with h4 | ⟨⟨h4, h5⟩, h6⟩
 ·exact absurd hs h4
 ·refine ⟨h4, h5, ?_⟩
  unfold txTop at h6
  split at h6
  ·have := of_decide_eq_false h6; omega
  ·exact of_decide_eq_false h6
theorem txSend_ok {g : Bool} {c : Cfg} {t : Tx} {ack : Int} (h : TxI c t) (hl : Low t) : TxI c (txSend g c t ack).1 ∧ Low (txSend g c t ack).1 := by
 unfold txSend
 by_cases hs : txStops g c t = true
 ·rw [if_pos hs]; exact ⟨h, hl⟩
 ·rw [if_neg hs]
  obtain ⟨h1, h2, h3, h4⟩ := txStops_no (by simpa using hs)
  obtain ⟨k1, k2, k3, k4⟩ := txMove_ok h hl h4
  refine ⟨{ k1 with sent := ?_ }, k2⟩
  have := h.sent
  simp only
  omega
theorem far_lt (a b : Int) : 0 ≤ far a b ∧ far a b ≤ 7 := by unfold far; omega
theorem txHear_ok {c : Cfg} {t : Tx} {f : Frm} (h : TxI c t) (hl : Low t) (hf : 0 ≤ f.ack ∧ f.ack ≤ 7) : TxI c (txHear t f) ∧ Low (txHear t f) := by
 unfold txHear
 split
 ·exact ⟨h, hl⟩
 ·split
  ·exact ⟨{ h with }, hl⟩
  ·rename_i h1 h2
   have hfl := far_lt t.acked f.ack
   have h3 := h.far
   have h4 := h.acked
   have h5 := h.next
   have h6 := h.num
   have h7 := h.count
   have h8 := h.sent
   have h9 := h.win
   have h10 := h.tries
   have h11 := h.cfg.win
   have h12 := h.cfg.tri
   unfold Low at hl
   have hd : ((t.flight.drop (far t.acked f.ack).toNat).length : Int) = t.flight.length - far t.acked f.ack := by rw [List.length_drop]; omega
   have hn : numOf (t.count + far t.acked f.ack) = f.ack := by
    unfold numOf at h6 ⊢
    rw [if_neg (by omega)] at h6 ⊢
    unfold far at *
    omega
   have hfar : far f.ack t.next = t.flight.length - far t.acked f.ack := by
    unfold far at *
    omega
   refine ⟨⟨h.cfg, hf, h.next, ?_, ?_, ?_, h.queue, ?_, ?_, hn, h.fl.drop _, h.qu⟩, ?_⟩
   ·simp only [hd, hfar]
   ·simp only [hd]; omega
   ·simp only [hd]
    split
    ·omega
    ·split <;> omega
   ·simp only; split <;> omega
   ·simp only; omega
   ·unfold Low; simp only [hd]; omega
theorem txTick_ok {c : Cfg} {t : Tx} {ack : Int} {busy : Bool} (h : TxI c t) (hl : Low t) : TxI c (txTick c t ack busy).1 ∧ Low (txTick c t ack busy).1 := by
 unfold txTick
 split
 ·exact ⟨h, hl⟩
 ·split
  ·exact ⟨{ h with }, hl⟩
  ·rename_i h1 h2
   have := h.tries
   exact ⟨{ h with tries := by simp only; omega }, hl⟩
/-! who hears -/
def JoinI (j : Join) : Prop := (j.len = 0 ∧ j.got = []) ∨ ((2 ≤ j.len ∧ j.len ≤ 24) ∧ 1 ≤ j.got.length ∧ (j.got.length : Int) ≤ j.len - 1)
theorem joinOk_iff {j : Join} : joinOk j = true ↔ JoinI j := by
 unfold joinOk JoinI
 simp only [Bool.or_eq_true, Bool.and_eq_true, decide_eq_true_eq, inB_iff]
 constructor
 ·rintro (h | h); exact .inl h; exact .inr (by omega)
 ·rintro (h | h); exact .inl h; exact .inr (by omega)
theorem JoinI.le {j : Join} (h : JoinI j) : j.got.length ≤ 23 := by
 rcases h with ⟨_, h⟩ | h
 ·rw [h]; simp
 ·omega
theorem segPut_ok {j : Join} {p : Part} (h : JoinI j) (hp : partOk p = true) : JoinI (segPut j p).1 ∧ ((segPut j p).2.2 = 2 → (segPut j p).2.1.length ≤ 24 ∧ (p.seg = 0 → (segPut j p).2.1.length = p.data.length) ∧ (p.seg = 0 ∨ (segPut j p).2.1.length = j.len)) := by
 unfold partOk at hp
 rw [pieceOk_iff] at hp
 have hj := h.le
 unfold segPut
 split
 ·rename_i hc
  refine ⟨.inl ⟨rfl, rfl⟩, fun _ => ?_⟩
  rcases h with ⟨h1, h2⟩ | h
  ·show (j.got ++ p.data).length ≤ 24 ∧ (p.seg = 0 → (j.got ++ p.data).length = p.data.length) ∧ (p.seg = 0 ∨ ((j.got ++ p.data).length : Int) = j.len)
   rw [h2, List.nil_append]
   exact ⟨by omega, fun _ => rfl, .inl hc.1⟩
  ·omega
 ·split
  ·rename_i hc
   refine ⟨?_, fun he => by simp at he⟩
   rcases h with ⟨h1, h2⟩ | h
   ·right
    show (2 ≤ p.len ∧ p.len ≤ 24) ∧ 1 ≤ (j.got ++ p.data).length ∧ ((j.got ++ p.data).length : Int) ≤ p.len - 1
    rw [h2, List.nil_append]; omega
   ·omega
  ·split
   ·rename_i hc
    refine ⟨?_, fun he => by simp at he⟩
    rcases h with ⟨h1, h2⟩ | h
    ·omega
    ·right
     have h3 := hc.2.2
     simp only [List.length_append] at h3 ⊢
     omega
   ·split
    ·rename_i hc
     refine ⟨.inl ⟨rfl, rfl⟩, fun _ => ?_⟩
     rcases h with ⟨h1, h2⟩ | h
     ·omega
     ·simp only at *; omega
    ·exact ⟨.inl ⟨rfl, rfl⟩, fun he => by simp at he⟩
structure RxI (r : Rx) : Prop where
 expect : 0 ≤ r.expect ∧ r.expect ≤ 7
 count : 0 ≤ r.count ∧ r.count ≤ 9999
 num : numOf r.count = r.expect
 join : JoinI r.join
theorem rxOk_iff {r : Rx} : rxOk r = true ↔ RxI r := by
 unfold rxOk
 simp only [Bool.and_eq_true, inB_iff, isNum_iff, decide_eq_true_eq, joinOk_iff]
 exact ⟨fun ⟨⟨⟨h1, h2⟩, h3⟩, h4⟩ => ⟨h1, h2, h3, h4⟩, fun ⟨h1, h2, h3, h4⟩ => ⟨⟨⟨h1, h2⟩, h3⟩, h4⟩⟩
theorem rxTake_ok {c : Cfg} {r : Rx} {f : Frm} (h : RxI r) (hp : pieceOk f.seg f.len f.data.length = true) : RxI (rxTake c r f).1 ∧ (∀ m ∈ (rxTake c r f).2, m.length ≤ 24) ∧ (rxTake c r f).2.length ≤ 1 := by
 have hs := segPut_ok (p := ⟨f.seg, f.len, f.data⟩) h.join hp
 unfold rxTake
 split
 ·exact ⟨{ h with }, by simp, by simp⟩
 ·rename_i hc
  simp only
  split
  ·exact ⟨{ h with join := hs.1 }, by simp, by simp⟩
  ·have h1 := h.expect
   have h2 := h.count
   have h3 := h.num
   have hnx : numNext r.expect = (r.expect + 1) % 8 := by unfold numNext; exact Int.tmod_eq_emod_of_nonneg (by omega)
   refine ⟨⟨?_, ?_, ?_, hs.1⟩, ?_, ?_⟩
   ·simp only [hnx]; omega
   ·simp only; omega
   ·simp only [hnx]; unfold numOf at h3 ⊢; rw [if_neg (by omega)] at h3 ⊢; omega
   ·simp only
    split
    ·rename_i h4; intro m hm; rw [List.mem_singleton.mp hm]; exact (hs.2 h4).1
    ·simp
   ·simp only; split <;> simp
theorem rxHear_ok {c : Cfg} {r : Rx} {f : Frm} (h : RxI r) (hf : frmOk f = true) (hk : f.kind = 1 ∨ f.kind = 2) : RxI (rxHear c r f).1 ∧ (∀ m ∈ (rxHear c r f).2.1, m.length ≤ 24) ∧ (rxHear c r f).2.1.length ≤ 1 := by
 unfold rxHear
 split
 ·exact ⟨h, by simp, by simp⟩
 ·split
  ·split
   ·exact ⟨{ h with }, by simp, by simp⟩
   ·exact ⟨h, by simp, by simp⟩
  ·rename_i h2
   have hp : pieceOk f.seg f.len f.data.length = true := by
    have h1 : f.kind = 1 := by omega
    unfold frmOk at hf
    rw [if_pos h1] at hf
    simp only [Bool.and_eq_true] at hf
    exact hf.2
   split
   ·exact ⟨h, by simp, by simp⟩
   ·split
    ·exact rxTake_ok h hp
    ·split
     ·exact ⟨{ h with }, by simp, by simp⟩
     ·exact ⟨h, by simp, by simp⟩
theorem rxBusy_ok {r : Rx} {b : Bool} (h : RxI r) : RxI (rxBusy r b).1 := by
 unfold rxBusy; split
 ·exact h
 ·exact { h with }
/-! for credits -/
structure CTxI (c : Cfg) (t : CTx) : Prop where
 cfg : CfgI c
 hav : 0 ≤ t.hav ∧ t.hav ≤ 255
 granted : 0 ≤ t.granted ∧ t.granted ≤ 9999
 sent : 0 ≤ t.sent ∧ t.sent ≤ 9999
 sum : t.hav = t.granted - t.sent
 queue : t.queue.length ≤ 24
 qu : PartsI c t.queue
theorem ctxOk_iff {c : Cfg} {t : CTx} : ctxOk c t = true ↔ CTxI c t := by
 unfold ctxOk
 simp only [Bool.and_eq_true, inB_iff, decide_eq_true_eq, cfgOk_iff, partsOk_iff]
 exact ⟨fun ⟨⟨⟨⟨⟨⟨h1, h2⟩, h3⟩, h4⟩, h5⟩, h6⟩, h7⟩ => ⟨h1, h2, h3, h4, h5, h6, h7⟩, fun ⟨h1, h2, h3, h4, h5, h6, h7⟩ => ⟨⟨⟨⟨⟨⟨h1, h2⟩, h3⟩, h4⟩, h5⟩, h6⟩, h7⟩⟩
def CRxI (r : CRx) : Prop := (0 ≤ r.out ∧ r.out ≤ 255) ∧ JoinI r.join
theorem crxOk_iff {r : CRx} : crxOk r = true ↔ CRxI r := by
 unfold crxOk CRxI
 simp only [Bool.and_eq_true, inB_iff, joinOk_iff]
theorem crdPut_ok {c : Cfg} {t : CTx} {sdu : List Int} (h : CTxI c t) : CTxI c (crdPut c t sdu).1 := by
 unfold crdPut
 split
 ·exact h
 ·split
  ·exact h
  ·refine { h with queue := ?_, qu := h.qu.append (segCut_parts sdu) }
   simp only [List.length_append]; omega
theorem crdSend_ok {c : Cfg} {t : CTx} (h : CTxI c t) : CTxI c (crdSend t).1 := by
 unfold crdSend
 split
 ·exact h
 ·rename_i p q hq
  split
  ·exact h
  ·rename_i hc
   have h1 := h.hav; have h2 := h.granted; have h3 := h.sent; have h4 := h.sum; have h5 := h.queue; have h6 := h.qu
   rw [hq] at h5 h6
   simp only [List.length_cons] at h5
   refine ⟨h.cfg, ?_, h.granted, ?_, ?_, ?_, fun p hp => h6 p (List.mem_cons_of_mem _ hp)⟩ <;> simp only <;> omega
theorem crdTake_ok {c : Cfg} {t : CTx} {n : Int} (h : CTxI c t) (hn : 0 ≤ n) : CTxI c (crdTake t n) := by
 unfold crdTake
 split
 ·exact h
 ·split
  ·exact { h with }
  ·have h1 := h.hav; have h2 := h.granted; have h3 := h.sent; have h4 := h.sum
   refine ⟨h.cfg, ?_, ?_, h.sent, ?_, h.queue, h.qu⟩ <;> simp only <;> omega
theorem crdGrant_ok {r : CRx} (h : CRxI r) : CRxI (crdGrant r).1 := by
 unfold crdGrant
 split
 ·exact h
 ·exact ⟨by simp only; omega, h.2⟩
theorem crdHear_ok {c : Cfg} {r : CRx} {f : Frm} (h : CRxI r) (hp : pieceOk f.seg f.len f.data.length = true) : CRxI (crdHear c r f).1 ∧ (∀ m ∈ (crdHear c r f).2, m.length ≤ 24) ∧ (crdHear c r f).2.length ≤ 1 := by
 have hs := segPut_ok (p := ⟨f.seg, f.len, f.data⟩) h.2 hp
 have h1 := h.1
 unfold crdHear
 split
 ·exact ⟨h, by simp, by simp⟩
 ·split
  ·exact ⟨h, by simp, by simp⟩
  ·rename_i hc
   simp only
   split
   ·exact ⟨⟨by simp only; omega, hs.1⟩, by simp, by simp⟩
   ·refine ⟨⟨by simp only; omega, hs.1⟩, ?_, ?_⟩
    ·simp only
     split
     ·rename_i h4; intro m hm; rw [List.mem_singleton.mp hm]; exact (hs.2 h4).1
     ·simp
    ·simp only; split <;> simp
/-! two ends -/
def SdusI (l : List (List Int)) : Prop := l.length ≤ 60 ∧ ∀ m ∈ l, m.length ≤ 24
theorem sdusOk_iff {l : List (List Int)} : sdusOk l = true ↔ SdusI l := by
 unfold sdusOk SdusI
 simp only [Bool.and_eq_true, decide_eq_true_eq, List.all_eq_true]
structure EndI (c : Cfg) (e : End) : Prop where
 tx : TxI c e.tx
 low : Low e.tx
 rx : RxI e.rx
 ctx : CTxI c e.ctx
 crx : CRxI e.crx
 put : SdusI e.put
 got : SdusI e.got
def NetI (l : List Msg) : Prop := l.length ≤ 30 ∧ ∀ m ∈ l, m.bytes.length ≤ 15
theorem netOk_iff {l : List Msg} : netOk l = true ↔ NetI l := by
 unfold netOk NetI
 simp only [Bool.and_eq_true, decide_eq_true_eq, List.all_eq_true]
structure WldI (w : Wld) : Prop where
 cfg : CfgI w.cfg
 le : w.ends.length = 2
 ln : w.net.length = 2
 ends : ∀ i, i < 2 → EndI w.cfg (endAt w i)
 net : ∀ i, i < 2 → NetI (netAt w i)
 link : 0 ≤ w.link ∧ w.link ≤ 1
theorem two_of_length {α : Type} {l : List α} (h : l.length = 2) : ∃ a b, l = [a, b] := by
 match l, h with
 | [a, b], _ => exact ⟨a, b, rfl⟩
theorem endOk_of {c : Cfg} {x : End} (hx : EndI c x) : endOk c x = true := by
 unfold endOk
 simp only [Bool.and_eq_true, txOk_iff, rxOk_iff, ctxOk_iff, crxOk_iff, sdusOk_iff]
 exact ⟨⟨⟨⟨⟨hx.tx, hx.rx⟩, hx.ctx⟩, hx.crx⟩, hx.put⟩, hx.got⟩
theorem WldI.ok {w : Wld} (h : WldI w) : wldOk w = true := by
 obtain ⟨a, b, he⟩ := two_of_length h.le
 obtain ⟨m, n, hn⟩ := two_of_length h.ln
 have h0 := h.ends 0 (by omega); have h1 := h.ends 1 (by omega)
 have k0 := h.net 0 (by omega); have k1 := h.net 1 (by omega)
 simp only [endAt, netAt, he, hn, List.getD_cons_zero, List.getD_cons_succ] at h0 h1 k0 k1
 unfold wldOk
 simp only [he, hn, List.all_cons, List.all_nil, endOk_of h0, endOk_of h1, netOk_iff.mpr k0, netOk_iff.mpr k1, cfgOk_iff.mpr h.cfg, inB_iff.mpr h.link, List.length_cons, List.length_nil]
 decide
theorem endAt_setEnd {w : Wld} (hl : w.ends.length = 2) {i : Nat} (hi : i < 2) (e : End) (j : Nat) : endAt (setEnd w i e) j = if j = i then e else endAt w j := by
 unfold endAt setEnd
 simp only [List.getD_eq_getElem?_getD, List.getElem?_set]
 by_cases h : j = i
 ·subst h; rw [if_pos rfl, if_pos (by omega), if_pos rfl]; rfl
 ·rw [if_neg (fun e => h e.symm), if_neg h]
theorem netAt_setNet {w : Wld} (hl : w.net.length = 2) {i : Nat} (hi : i < 2) (m : List Msg) (j : Nat) : netAt (setNet w i m) j = if j = i then m else netAt w j := by
 unfold netAt setNet
 simp only [List.getD_eq_getElem?_getD, List.getElem?_set]
 by_cases h : j = i
 ·subst h; rw [if_pos rfl, if_pos (by omega), if_pos rfl]; rfl
 ·rw [if_neg (fun e => h e.symm), if_neg h]
theorem endAt_setNet (w : Wld) (i : Nat) (m : List Msg) (j : Nat) : endAt (setNet w i m) j = endAt w j := rfl
theorem WldI.setEnd {w : Wld} (h : WldI w) {i : Nat} (hi : i < 2) {e : End} (he : EndI w.cfg e) : WldI (setEnd w i e) := by
 refine ⟨h.cfg, by simp [Go.Proofs.YtllafcmkppmdgaaGreat.setEnd, h.le], h.ln, ?_, h.net, h.link⟩
 intro j hj
 rw [endAt_setEnd h.le hi]
 split
 ·exact he
 ·exact h.ends j hj
theorem WldI.setNet {w : Wld} (h : WldI w) {i : Nat} (hi : i < 2) {m : List Msg} (hm : NetI m) : WldI (setNet w i m) := by
 refine ⟨h.cfg, h.le, by simp [Go.Proofs.YtllafcmkppmdgaaGreat.setNet, h.ln], h.ends, ?_, h.link⟩
 intro j hj
 rw [netAt_setNet h.ln hi]
 split
 ·exact hm
 ·exact h.net j hj
theorem wldNew_I {c : Cfg} (h : CfgI c) : WldI (wldNew c) := by
 unfold wldNew
 rw [if_pos (cfgOk_iff.mpr h)]
 have hw := h.win; have ht := h.tri
 have he : EndI c end0 := by
  refine ⟨⟨h, by simp [end0, tx0], by simp [end0, tx0], by simp [end0, tx0, far], by simp [end0, tx0]; omega, by simp [end0, tx0], by simp [end0, tx0], by simp [end0, tx0]; omega, by simp [end0, tx0], by simp [end0, tx0, numOf], ?_, ?_⟩, by simp [Low, end0, tx0], ⟨by simp [end0, rx0], by simp [end0, rx0], by simp [end0, rx0, numOf], .inl ⟨rfl, rfl⟩⟩, ⟨h, by simp [end0, ctx0], by simp [end0, ctx0], by simp [end0, ctx0], by simp [end0, ctx0], by simp [end0, ctx0], ?_⟩, ⟨by simp [end0, crx0], .inl ⟨rfl, rfl⟩⟩, ⟨by simp [end0], by simp [end0]⟩, ⟨by simp [end0], by simp [end0]⟩⟩
  all_goals (intro p hp; simp [end0, tx0, ctx0] at hp)
 refine ⟨h, rfl, rfl, ?_, ?_, by simp⟩
 ·intro i hi
  have : i = 0 ∨ i = 1 := by omega
  rcases this with rfl | rfl <;> exact he
 ·intro i hi
  have : i = 0 ∨ i = 1 := by omega
  rcases this with rfl | rfl <;> exact ⟨by simp [netAt], by simp [netAt]⟩
/-! what happens -/
theorem NetI.snoc {l : List Msg} (h : NetI l) (hl : l.length < 30) {m : Msg} (hm : m.bytes.length ≤ 15) : NetI (l ++ [m]) := by
 refine ⟨by simp; omega, fun x hx => ?_⟩
 rcases List.mem_append.mp hx with hx | hx
 ·exact h.2 x hx
 ·rw [List.mem_singleton.mp hx]; exact hm
theorem NetI.tail {m : Msg} {l : List Msg} (h : NetI (m :: l)) : NetI l := ⟨by have := h.1; simp at this; omega, fun x hx => h.2 x (List.mem_cons_of_mem _ hx)⟩
theorem say1_I {w : Wld} (h : WldI w) {who : Nat} (f : Frm) : WldI (say1 w who f) := by
 unfold say1
 split
 ·rename_i hl
  exact h.setNet (by omega) ((h.net _ (by omega)).snoc hl (frmBytes_le f))
 ·exact h
theorem says_I {who : Nat} (l : List Frm) : ∀ {w : Wld}, WldI w → WldI (says w who l) := by
 induction l with
 | nil => intro w h; exact h
 | cons f l ih => intro w h; exact ih (say1_I h f)
theorem sayO_I {w : Wld} (h : WldI w) {who : Nat} (o : Option Frm) : WldI (sayO w who o) := by
 cases o with
 | none => exact h
 | some f => exact say1_I h f
theorem tell_I {got l : List (List Int)} (h : SdusI got) (hl : ∀ m ∈ l, m.length ≤ 24) : SdusI (tell got l) := by
 unfold tell
 induction l generalizing got with
 | nil => exact h
 | cons m l ih =>
  rw [List.foldl_cons]
  refine ih ?_ (fun x hx => hl x (List.mem_cons_of_mem _ hx))
  split
  ·rename_i hlt
   refine ⟨by simp; omega, fun x hx => ?_⟩
   rcases List.mem_append.mp hx with hx | hx
   ·exact h.2 x hx
   ·rw [List.mem_singleton.mp hx]; exact hl m List.mem_cons_self
  ·exact h
theorem put_I {c : Cfg} {put : List (List Int)} {sdu : List Int} (h : SdusI put) (hl : put.length < 60) (hm : (sdu.length : Int) ≤ c.mtu) (hc : CfgI c) : SdusI (put ++ [sdu]) := by
 have := hc.mtu
 refine ⟨by simp; omega, fun x hx => ?_⟩
 rcases List.mem_append.mp hx with hx | hx
 ·exact h.2 x hx
 ·rw [List.mem_singleton.mp hx]; omega
theorem txPut_yes {c : Cfg} {t : Tx} {sdu : List Int} (h : (txPut c t sdu).2 = true) : (sdu.length : Int) ≤ c.mtu ∧ t.dead = false ∧ (txPut c t sdu).1 = { t with queue := t.queue ++ segCut sdu c.mps } := by
 unfold txPut at h ⊢
 split at h
 ·cases h
 ·rename_i h1
  split at h
  ·cases h
  ·rename_i h2
   rw [if_neg h1, if_neg h2]
   exact ⟨by omega, by simpa using fun hd => h1 (.inl hd), rfl⟩
theorem crdPut_yes {c : Cfg} {t : CTx} {sdu : List Int} (h : (crdPut c t sdu).2 = true) : (sdu.length : Int) ≤ c.mtu ∧ t.dead = false ∧ (crdPut c t sdu).1 = { t with queue := t.queue ++ segCut sdu c.mps } := by
 unfold crdPut at h ⊢
 split at h
 ·cases h
 ·rename_i h1
  split at h
  ·cases h
  ·rename_i h2
   rw [if_neg h1, if_neg h2]
   exact ⟨by omega, by simpa using fun hd => h1 (.inl hd), rfl⟩
theorem byNum_I {g : Bool} {w : Wld} (h : WldI w) {who : Nat} (hw : who < 2) (e : Evt) : WldI (byNum g w who e) := by
 have hx := h.ends who hw
 unfold byNum
 simp only
 split
 ·split
  ·rename_i hl
   have hp := txPut_ok (sdu := e.data) hx.tx hx.low
   refine h.setEnd hw { hx with tx := hp.1, low := hp.2, put := ?_ }
   simp only
   split
   ·rename_i hy; exact put_I hx.put hl (txPut_yes hy).1 h.cfg
   ·exact hx.put
  ·exact h
 ·split
  ·split
   ·have hp := txSend_ok (g := g) (ack := (endAt w who).rx.expect) hx.tx hx.low
    refine sayO_I (h.setEnd hw ?_) _; exact { hx with tx := hp.1, low := hp.2 }
   ·exact h
  ·split
   ·have hp := txTick_ok (ack := (endAt w who).rx.expect) (busy := (endAt w who).rx.busy) hx.tx hx.low
    refine sayO_I (h.setEnd hw ?_) _; exact { hx with tx := hp.1, low := hp.2 }
   ·split
    ·exact says_I _ (h.setEnd hw { hx with rx := rxBusy_ok hx.rx })
    ·split
     ·split
      ·exact h
      ·exact say1_I h _
     ·exact h
theorem forCrd_I {w : Wld} (h : WldI w) {who : Nat} (hw : who < 2) (e : Evt) : WldI (forCrd w who e) := by
 have hx := h.ends who hw
 unfold forCrd
 simp only
 split
 ·split
  ·rename_i hl
   refine h.setEnd hw { hx with ctx := crdPut_ok hx.ctx, put := ?_ }
   simp only
   split
   ·rename_i hy; exact put_I hx.put hl (crdPut_yes hy).1 h.cfg
   ·exact hx.put
  ·exact h
 ·split
  ·split
   ·refine sayO_I (h.setEnd hw ?_) _; exact { hx with ctx := crdSend_ok hx.ctx }
   ·exact h
  ·split
   ·split
    ·refine sayO_I (h.setEnd hw ?_) _; exact { hx with crx := crdGrant_ok hx.crx }
    ·exact h
   ·exact h
theorem hearF_I {w : Wld} (h : WldI w) {who : Nat} (hw : who < 2) {f : Frm} (hf : frmOk f = true) : WldI (hearF w who f) := by
 have hx := h.ends who hw
 have hb := frmOk_bound hf
 unfold hearF
 simp only
 split
 ·split
  ·rename_i hk
   have h1 := txHear_ok (f := f) hx.tx hx.low (by omega)
   have h2 := rxHear_ok (c := w.cfg) hx.rx hf hk
   exact says_I _ (h.setEnd hw { hx with tx := h1.1, low := h1.2, rx := h2.1, got := tell_I hx.got h2.2.1 })
  ·exact h
 ·split
  ·exact h.setEnd hw { hx with ctx := crdTake_ok hx.ctx (by omega) }
  ·split
   ·rename_i hk
    have hp : pieceOk f.seg f.len f.data.length = true := by
     unfold frmOk at hf
     rw [if_neg (by omega), if_neg (by omega), if_pos hk] at hf
     simp only [Bool.and_eq_true] at hf
     exact hf.2
    have h2 := crdHear_ok (c := w.cfg) hx.crx hp
    exact h.setEnd hw { hx with crx := h2.1, got := tell_I hx.got h2.2.1 }
   ·exact h
theorem hear1_I {w : Wld} (h : WldI w) {who : Nat} (hw : who < 2) : WldI (hear1 w who) := by
 unfold hear1
 split
 ·exact h
 ·rename_i m l hn
  have hnet := h.net who hw
  rw [hn] at hnet
  split
  ·exact h.setNet hw hnet.tail
  ·rename_i f hf
   exact hearF_I (h.setNet hw hnet.tail) hw (frmRead_ok hf).1
theorem bendM_length (m : Msg) (a v : Int) : (bendM m a v).bytes.length = m.bytes.length := by
 unfold bendM; split
 ·simp
 ·rfl
theorem step_I {g : Bool} {w : Wld} (h : WldI w) (e : Evt) : WldI (step g w e) := by
 unfold step
 split
 ·exact h
 ·rename_i hw
  have hw' : e.who.toNat < 2 := by omega
  simp only
  have hnet := h.net _ hw'
  split
  ·exact hear1_I h hw'
  ·split
   ·refine h.setNet hw' ?_
    exact ⟨by have := hnet.1; simp; omega, fun x hx => hnet.2 x (List.mem_of_mem_drop hx)⟩
   ·split
    ·split
     ·exact h
     ·rename_i m l hn
      rw [hn] at hnet
      refine h.setNet hw' ⟨by have := hnet.1; simpa using this, fun x hx => ?_⟩
      rcases List.mem_cons.mp hx with rfl | hx
      ·rw [bendM_length]; exact hnet.2 m List.mem_cons_self
      ·exact hnet.2 x (List.mem_cons_of_mem _ hx)
    ·split
     ·have hl := h.link
      refine ⟨h.cfg, h.le, rfl, h.ends, ?_, by simp only; omega⟩
      intro i hi
      have : i = 0 ∨ i = 1 := by omega
      rcases this with rfl | rfl <;> exact ⟨by simp [netAt], by simp [netAt]⟩
     ·split
      ·split
       ·rename_i hc
        exact h.setNet hw' (hnet.snoc hc.1 hc.2)
       ·exact h
      ·split
       ·exact byNum_I h hw' e
       ·exact forCrd_I h hw' e
theorem run_I {g : Bool} {l : List Evt} : ∀ {w : Wld}, WldI w → WldI (run g w l) := by
 induction l with
 | nil => intro w h; exact h
 | cons e l ih => intro w h; exact ih (step_I h e)
theorem endAt_say1 (w : Wld) (i j : Nat) (f : Frm) : endAt (say1 w i f) j = endAt w j := by unfold say1; split <;> rfl
theorem endAt_says (i j : Nat) (l : List Frm) : ∀ w : Wld, endAt (says w i l) j = endAt w j := by
 induction l with
 | nil => intro w; rfl
 | cons f l ih => intro w; exact (ih _).trans (endAt_say1 w i j f)
theorem endAt_sayO (w : Wld) (i j : Nat) (o : Option Frm) : endAt (sayO w i o) j = endAt w j := by
 cases o with
 | none => rfl
 | some f => exact endAt_say1 w i j f
theorem step_other {g : Bool} {w : Wld} (h : WldI w) (e : Evt) {i : Nat} (hi : e.who.toNat ≠ i) : endAt (step g w e) i = endAt w i := by
 have hs : ∀ (v : Wld) (x : End), v.ends.length = 2 → e.who.toNat < 2 → endAt (setEnd v e.who.toNat x) i = endAt v i := fun v x hl hw => by rw [endAt_setEnd hl hw, if_neg (fun e => hi e.symm)]
 unfold step
 split
 ·rfl
 ·have hw' : e.who.toNat < 2 := by omega
  simp only
  split
  ·unfold hear1
   split
   ·rfl
   ·split
    ·rfl
    ·unfold hearF
     simp only
     split
     ·split
      ·rw [endAt_says, hs _ _ (by exact h.le) hw', endAt_setNet]
      ·rfl
     ·split
      ·rw [hs _ _ (by exact h.le) hw', endAt_setNet]
      ·split
       ·rw [hs _ _ (by exact h.le) hw', endAt_setNet]
       ·rfl
  ·split
   ·rfl
   ·split
    ·split <;> rfl
    ·split
     ·rfl
     ·split
      ·split <;> rfl
      ·split
       ·unfold byNum
        simp only
        repeat' split
        all_goals first | rfl | (rw [endAt_sayO]; exact hs _ _ (by exact h.le) hw') | (rw [endAt_says]; exact hs _ _ (by exact h.le) hw') | (rw [endAt_say1]) | exact hs _ _ (by exact h.le) hw'
       ·unfold forCrd
        simp only
        repeat' split
        all_goals first | rfl | (rw [endAt_sayO]; exact hs _ _ (by exact h.le) hw') | exact hs _ _ (by exact h.le) hw'
open Go.RowKit
theorem inB_no {n lo hi : Int} : inB n lo hi = false ↔ ¬ (lo ≤ n ∧ n ≤ hi) := by rw [← inB_iff]; simp
structure Rep (α : Type) where
 sz : Nat
 K : Zc → α → List Value → Prop
 len : ∀ {z x cs}, K z x cs → cs.length = sz
 one : ∀ {z x cs}, K z x cs → ∀ u ∈ cs, u.oneCell' = true
 mono : ∀ {z z' : Zc} {x cs}, z ≤ z' → K z x cs → K z' x cs
def Els {α : Type} (d : Rep α) (z : Zc) : List α → List Value → Prop
 | [], cs => cs = []
 | x :: xs, cs => ∃ c r, cs = c ++ r ∧ d.K z x c ∧ Els d z xs r
def Sl {α : Type} (d : Rep α) (z : Zc) (xs : List α) (v : Value) : Prop := ∃ A c cs, v = .slice A xs.length c ∧ xs.length ≤ c ∧ Els d z xs cs ∧ RdAt z A 0 cs
section
variable {α : Type} {d : Rep α} {z z' : Zc} {xs ys : List α} {cs ds : List Value} {x : α} {v : Value}
theorem Els.mono (hz : z ≤ z') (h : Els d z xs cs) : Els d z' xs cs := by
 induction xs generalizing cs with
 | nil => exact h
 | cons x xs ih => obtain ⟨c, r, rfl, h1, h2⟩ := h; exact ⟨c, r, rfl, d.mono hz h1, ih h2⟩
theorem Els.length (h : Els d z xs cs) : cs.length = xs.length * d.sz := by
 induction xs generalizing cs with
 | nil => rw [show cs = [] from h]; simp
 | cons x xs ih =>
  obtain ⟨c, r, rfl, h1, h2⟩ := h
  rw [List.length_append, d.len h1, ih h2, List.length_cons, Nat.succ_mul]; omega
theorem Els.one (h : Els d z xs cs) : ∀ u ∈ cs, u.oneCell' = true := by
 induction xs generalizing cs with
 | nil => rw [show cs = [] from h]; simp
 | cons x xs ih =>
  obtain ⟨c, r, rfl, h1, h2⟩ := h
  intro u hu
  rcases List.mem_append.mp hu with hu | hu
  ·exact d.one h1 u hu
  ·exact ih h2 u hu
theorem Els.append (h : Els d z xs cs) (k : Els d z ys ds) : Els d z (xs ++ ys) (cs ++ ds) := by
 induction xs generalizing cs with
 | nil => rw [show cs = [] from h]; exact k
 | cons x xs ih => obtain ⟨c, r, rfl, h1, h2⟩ := h; exact ⟨c, r ++ ds, by simp, h1, ih h2⟩
theorem Els.single (h : d.K z x cs) : Els d z [x] cs := ⟨cs, [], by simp, h, rfl⟩
theorem Els.drop (h : Els d z xs cs) (k : Nat) : Els d z (xs.drop k) (cs.drop (k * d.sz)) := by
 induction k generalizing xs cs with
 | zero => simpa using h
 | succ k ih =>
  cases xs with
  | nil => rw [show cs = [] from h]; simp [Els]
  | cons x xs =>
   obtain ⟨c, r, rfl, h1, h2⟩ := h
   have := ih h2
   rw [List.drop_succ_cons, Nat.succ_mul, Nat.add_comm, ← List.drop_drop, ← d.len h1, List.drop_left]
   rw [d.len h1]; exact this
theorem Els.take (h : Els d z xs cs) (k : Nat) : Els d z (xs.take k) (cs.take (k * d.sz)) := by
 induction k generalizing xs cs with
 | zero => simp [Els]
 | succ k ih =>
  cases xs with
  | nil => rw [show cs = [] from h]; simp [Els]
  | cons x xs =>
   obtain ⟨c, r, rfl, h1, h2⟩ := h
   have hl := d.len h1
   rw [List.take_succ_cons]
   refine ⟨c, r.take (k * d.sz), ?_, h1, ih h2⟩
   rw [List.take_append, List.take_of_length_le (by rw [Nat.succ_mul]; omega), hl, show (k + 1) * d.sz - d.sz = k * d.sz by rw [Nat.succ_mul]; omega]
theorem Els.get (h : Els d z xs cs) {k : Nat} (hk : xs[k]? = some x) : ∃ c, d.K z x c ∧ ∀ i u, c[i]? = some u → cs[k * d.sz + i]? = some u := by
 induction xs generalizing cs k with
 | nil => simp at hk
 | cons y xs ih =>
  obtain ⟨c, r, rfl, h1, h2⟩ := h
  have hl := d.len h1
  cases k with
  | zero =>
   simp only [List.getElem?_cons_zero, Option.some.injEq] at hk
   subst hk
   refine ⟨c, h1, fun i u hu => ?_⟩
   rw [Nat.zero_mul, Nat.zero_add, List.getElem?_append_left (List.getElem?_eq_some_iff.mp hu).1]; exact hu
  | succ k =>
   obtain ⟨c', k1, k2⟩ := ih h2 (k := k) (by simpa using hk)
   refine ⟨c', k1, fun i u hu => ?_⟩
   rw [Nat.succ_mul, List.getElem?_append_right (by omega), show k * d.sz + d.sz + i - c.length = k * d.sz + i by omega]
   exact k2 i u hu
theorem Els.split (h : Els d z (xs ++ ys) cs) : ∃ c1 c2, cs = c1 ++ c2 ∧ Els d z xs c1 ∧ Els d z ys c2 := by
 induction xs generalizing cs with
 | nil => exact ⟨[], cs, rfl, rfl, h⟩
 | cons x xs ih =>
  obtain ⟨c, r, rfl, h1, h2⟩ := h
  obtain ⟨c1, c2, rfl, h3, h4⟩ := ih h2
  exact ⟨c ++ c1, c2, by simp, ⟨c, c1, rfl, h1, h3⟩, h4⟩
theorem Sl.mono (hz : z ≤ z') (h : Sl d z xs v) : Sl d z' xs v := by
 obtain ⟨A, c, cs, rfl, hc, he, hr⟩ := h
 exact ⟨A, c, cs, rfl, hc, he.mono hz, hr.mono hz⟩
theorem Sl.nil (z : Zc) (A : Option Addr) (c : Nat) : Sl d z [] (.slice A 0 c) := ⟨A, c, [], rfl, Nat.zero_le _, rfl, RdAt.nil _ _ _⟩
theorem Sl.one (h : Sl d z xs v) : v.oneCell' = true := by obtain ⟨A, c, cs, rfl, _⟩ := h; rfl
theorem RdAt.isAt {A : Option Addr} {o : Nat} {vs : List Value} (h : RdAt z A o vs) (hn : 0 < vs.length) : IsAt A := by
 obtain ⟨b, o', e, _⟩ := h (by intro e; rw [e] at hn; simp at hn); exact ⟨b, o', e⟩
theorem Els.at {A : Option Addr} (h : Els d z xs cs) (hr : RdAt z A 0 cs) {k : Nat} (hk : xs[k]? = some x) : ∃ c, d.K z x c ∧ RdAt z A (k * d.sz) c := by
 obtain ⟨c, h1, h2⟩ := h.get hk
 refine ⟨c, h1, ?_⟩
 have := hr.sub (k * d.sz) c h2
 rwa [Nat.zero_add] at this
theorem Els.isAt {A : Option Addr} (h : Els d z xs cs) (hr : RdAt z A 0 cs) (hs : 0 < d.sz) {k : Nat} (hk : k < xs.length) : IsAt A :=
 hr.isAt (by rw [h.length]; exact Nat.mul_pos (by omega) hs)
theorem RdAt.cut {A : Option Addr} {c l sz : Nat} (hr : RdAt z A 0 cs) (hl : cs.length ≤ c * sz) : RdAt z (cutA A c l sz) 0 (cs.drop (l * sz)) := fun hn => by
 unfold cutA
 split
 ·rename_i e
  subst e
  exact absurd (List.drop_eq_nil_of_le hl) hn
 ·obtain ⟨b, o', e, hb, hc⟩ := hr (by intro e; subst e; simp at hn)
  subst e
  refine ⟨b, o' + l * sz, by simp [add_at], hb, fun i u hu => ?_⟩
  rw [List.getElem?_drop] at hu
  have := hc _ u hu
  rw [show o' + l * sz + 0 + i = o' + 0 + (l * sz + i) by omega]; exact this
theorem RdAt.take {A : Option Addr} {o : Nat} (hr : RdAt z A o cs) (n : Nat) : RdAt z A o (cs.take n) := by
 have := hr.sub 0 (cs.take n) (fun i u hu => by
  have hi := (List.getElem?_eq_some_iff.1 hu).1
  simp at hi
  rw [List.getElem?_take_of_lt (by omega)] at hu
  rwa [Nat.zero_add])
 simpa using this
end
theorem RdAt.cell {z : Zc} {A : Option Addr} {o : Nat} {cs : List Value} (h : RdAt z A o cs) (k : Nat) {u : Value} (hk : cs[k]? = some u) : RdAt z A (o + k) [u] :=
 h.sub k [u] fun i x hx => by
  cases i with
  | zero => simp at hx; subst hx; exact hk
  | succ i => simp at hx
theorem Sl.take {α : Type} {d : Rep α} {z : Zc} {xs : List α} {A : Option Addr} {n c : Nat} (h : Sl d z xs (.slice A n c)) {k c' : Nat} (hk : k ≤ xs.length) (hc' : k ≤ c') : Sl d z (xs.take k) (.slice A k c') := by
 obtain ⟨A', c1, cs, e, hc, he, hr⟩ := h
 injection e with e1 e2 e3
 subst e1; subst e3
 refine ⟨A, c', cs.take (k * d.sz), ?_, ?_, he.take k, hr.take _⟩
 ·rw [List.length_take, Nat.min_eq_left hk]
 ·rw [List.length_take]; omega
theorem Sl.drop {α : Type} {d : Rep α} {z : Zc} {xs : List α} {A : Option Addr} {n c : Nat} (h : Sl d z xs (.slice A n c)) {k : Nat} : Sl d z (xs.drop k) (.slice (cutA A c k d.sz) (n - k) (c - k)) := by
 obtain ⟨A', c1, cs, e, hc, he, hr⟩ := h
 injection e with e1 e2 e3
 subst e1; subst e3; subst e2
 refine ⟨_, _, cs.drop (k * d.sz), by rw [List.length_drop], by rw [List.length_drop]; omega, he.drop k, hr.cut ?_⟩
 rw [he.length]; exact Nat.mul_le_mul_right _ hc
def bRep : Rep Int where
 sz := 1
 K := fun _ x cs => cs = [.int .u8 x] ∧ 0 ≤ x ∧ x ≤ 255
 len := by rintro z x cs ⟨rfl, _⟩; rfl
 one := by rintro z x cs ⟨rfl, _⟩ u hu; rw [List.mem_singleton.mp hu]; rfl
 mono := fun _ h => h
abbrev bc (l : List Int) : List Value := l.map (Value.int .u8)
theorem Els.bytes {z : Zc} {l : List Int} {cs : List Value} (h : Els bRep z l cs) : cs = bc l ∧ Bys l := by
 induction l generalizing cs with
 | nil => rw [show cs = [] from h]; exact ⟨rfl, fun x hx => by cases hx⟩
 | cons x l ih =>
  obtain ⟨c, r, rfl, ⟨rfl, hx⟩, h2⟩ := h
  obtain ⟨rfl, k⟩ := ih h2
  exact ⟨rfl, fun y hy => by rcases List.mem_cons.mp hy with rfl | hy; exact hx; exact k y hy⟩
theorem Els.of_bytes {z : Zc} {l : List Int} (h : Bys l) : Els bRep z l (bc l) := by
 induction l with
 | nil => rfl
 | cons x l ih => exact ⟨[.int .u8 x], _, rfl, ⟨rfl, h x List.mem_cons_self⟩, ih (fun y hy => h y (List.mem_cons_of_mem _ hy))⟩
abbrev By (z : Zc) (l : List Int) (v : Value) : Prop := Sl bRep z l v
theorem By.form {z : Zc} {l : List Int} {v : Value} (h : By z l v) : ∃ A c, v = .slice A l.length c ∧ l.length ≤ c ∧ Bys l ∧ RdAt z A 0 (bc l) := by
 obtain ⟨A, c, cs, rfl, hc, he, hr⟩ := h
 obtain ⟨rfl, hb⟩ := he.bytes
 exact ⟨A, c, rfl, hc, hb, hr⟩
theorem By.mk {z : Zc} {l : List Int} {A : Option Addr} {c : Nat} (hc : l.length ≤ c) (hb : Bys l) (hr : RdAt z A 0 (bc l)) : By z l (.slice A l.length c) := ⟨A, c, _, rfl, hc, Els.of_bytes hb, hr⟩
theorem By.bys {z : Zc} {l : List Int} {v : Value} (h : By z l v) : Bys l := by obtain ⟨_, _, _, _, h, _⟩ := h.form; exact h
def Rep.slice {α : Type} (d : Rep α) : Rep (List α) where
 sz := 1
 K := fun z xs cs => ∃ v, cs = [v] ∧ Sl d z xs v
 len := by rintro z x cs ⟨v, rfl, _⟩; rfl
 one := by rintro z x cs ⟨v, rfl, h⟩ u hu; rw [List.mem_singleton.mp hu]; exact h.one
 mono := by rintro z z' x cs hz ⟨v, rfl, h⟩; exact ⟨v, rfl, h.mono hz⟩
abbrev sduRep : Rep (List Int) := bRep.slice
def pRep : Rep Part where
 sz := 3
 K := fun z p cs => ∃ v, cs = [.int .i64 p.seg, .int .i64 p.len, v] ∧ By z p.data v
 len := by rintro z x cs ⟨v, rfl, _⟩; rfl
 one := by rintro z x cs ⟨v, rfl, h⟩ u hu; simp at hu; rcases hu with rfl | rfl | rfl; rfl; rfl; exact h.one
 mono := by rintro z z' x cs hz ⟨v, rfl, h⟩; exact ⟨v, rfl, Sl.mono hz h⟩
def mRep : Rep Msg where
 sz := 2
 K := fun z m cs => ∃ v, cs = [.bool m.bent, v] ∧ By z m.bytes v
 len := by rintro z x cs ⟨v, rfl, _⟩; rfl
 one := by rintro z x cs ⟨v, rfl, h⟩ u hu; simp at hu; rcases hu with rfl | rfl; rfl; exact h.one
 mono := by rintro z z' x cs hz ⟨v, rfl, h⟩; exact ⟨v, rfl, Sl.mono hz h⟩
def fRep : Rep Frm where
 sz := 9
 K := fun z f cs => ∃ v, cs = [.int .i64 f.kind, .int .i64 f.seq, .int .i64 f.ack, .bool f.poll, .bool f.fin, .int .i64 f.say, .int .i64 f.seg, .int .i64 f.len, v] ∧ By z f.data v
 len := by rintro z x cs ⟨v, rfl, _⟩; rfl
 one := by rintro z x cs ⟨v, rfl, h⟩ u hu; simp at hu; rcases hu with rfl | rfl | rfl | rfl | rfl | rfl | rfl | rfl | rfl <;> first | rfl | exact h.one
 mono := by rintro z z' x cs hz ⟨v, rfl, h⟩; exact ⟨v, rfl, Sl.mono hz h⟩
abbrev vCfg (c : Cfg) : Value := .agg #[.int .i64 c.mode, .int .i64 c.win, .int .i64 c.mps, .int .i64 c.mtu, .int .i64 c.tri]
abbrev vPart (p : Part) (v : Value) : Value := .agg #[.int .i64 p.seg, .int .i64 p.len, v]
abbrev vFrm (f : Frm) (v : Value) : Value := .agg #[.int .i64 f.kind, .int .i64 f.seq, .int .i64 f.ack, .bool f.poll, .bool f.fin, .int .i64 f.say, .int .i64 f.seg, .int .i64 f.len, v]
abbrev vJoin (j : Join) (v : Value) : Value := .agg #[.int .i64 j.len, v]
abbrev vCRx (r : CRx) (v : Value) : Value := .agg #[.int .i64 r.out, .int .i64 r.join.len, v, .bool r.dead]
abbrev vCTx (t : CTx) (v : Value) : Value := .agg #[.int .i64 t.hav, v, .int .i64 t.granted, .int .i64 t.sent, .bool t.dead]
abbrev vRx (r : Rx) (v : Value) : Value := .agg #[.int .i64 r.expect, .int .i64 r.count, .int .i64 r.join.len, v, .bool r.again, .bool r.busy, .bool r.dead]
abbrev vTx (t : Tx) (v u : Value) : Value := .agg #[.int .i64 t.next, .int .i64 t.acked, v, .int .i64 t.sent, u, .bool t.asks, .int .i64 t.tries, .bool t.held, .int .i64 t.count, .bool t.dead]
end Go.Proofs.YtllafcmkppmdgaaGreat
