/- Two ends that use numbers: what is on its way, what has come, what has been let go of. Plain lists and numbers. · Two ends that use numbers: what a step turns; counts, ends, rest. Plain lists and numbers. · Two ends that use numbers: what is told, what comes next, what has come. Plain lists and numbers. · What values say: lists of things in memory that stays. · The engine, last part: append onto nothing, that gives a row of one's own. -/
import Derived.Test.YtnkhjnieidlknaaGreatB5
import Derived.Test.YtnkhjnieidlknaaGreatB4
namespace Go.Proofs.YtnkhjnieidlknaaGreat
set_option linter.unusedVariables false
set_option linter.unusedSimpArgs false
def rdN (l : List Msg) : List Frm := l.filterMap fun m => frmRead m.bytes
def isP (P : List Part) (f : Frm) (s : Nat) : Prop := f.seq = (s : Int) % 8 ∧ P[s]? = some ⟨f.seg, f.len, f.data⟩
def Way (win : Nat) (P : List Part) (top : Nat) : Nat → List Frm → Prop
  | _, [] => True
  | lo, f :: l => if f.kind = 1 then ∃ s, isP P f s ∧ s < top ∧ lo ≤ s + win ∧ Way win P top (max lo (s + 1)) l else Way win P top lo l
def Acks (hi : Nat) : Nat → List Frm → Prop
  | lo, [] => lo ≤ hi
  | lo, f :: l => ∃ k : Nat, f.ack = (k : Int) % 8 ∧ lo ≤ k ∧ k ≤ hi ∧ Acks hi k l
theorem Way.mono {win : Nat} {P : List Part} {top : Nat} {l : List Frm} : ∀ {lo lo' : Nat}, Way win P top lo l → lo' ≤ lo → Way win P top lo' l := by
  induction l with
  | nil => intro lo lo' _ _; trivial
  | cons f l ih =>
    intro lo lo' h hl
    unfold Way at h ⊢
    split
    · rename_i hk
      rw [if_pos hk] at h
      obtain ⟨s, h1, h2, h3, h4⟩ := h
      exact ⟨s, h1, h2, by omega, ih h4 (by omega)⟩
    · rename_i hk
      rw [if_neg hk] at h
      exact ih h hl
theorem Way.grow {win : Nat} {P Q : List Part} {top top' : Nat} {l : List Frm} (hP : ∀ (s : Nat) (p : Part), P[s]? = some p → Q[s]? = some p) (ht : top ≤ top') : ∀ {lo : Nat}, Way win P top lo l → Way win Q top' lo l := by
  induction l with
  | nil => intro lo _; trivial
  | cons f l ih =>
    intro lo h
    unfold Way at h ⊢
    split
    · rename_i hk
      rw [if_pos hk] at h
      obtain ⟨s, h1, h2, h3, h4⟩ := h
      exact ⟨s, ⟨h1.1, hP _ _ h1.2⟩, by omega, h3, ih h4⟩
    · rename_i hk
      rw [if_neg hk] at h
      exact ih h
theorem Way.tail {win : Nat} {P : List Part} {top lo : Nat} {f : Frm} {l : List Frm} (h : Way win P top lo (f :: l)) : Way win P top lo l := by
  unfold Way at h
  split at h
  · obtain ⟨s, h1, h2, h3, h4⟩ := h
    exact h4.mono (by omega)
  · exact h
theorem Way.snoc {win : Nat} {P : List Part} {top : Nat} {f : Frm} {s : Nat} (hf : isP P f s) (hs : s < top) (hw : top ≤ s + win) {l : List Frm} : ∀ {lo : Nat}, Way win P top lo l → lo ≤ top → Way win P top lo (l ++ [f]) := by
  induction l with
  | nil =>
    intro lo _ hl
    show Way win P top lo (f :: [])
    unfold Way
    split
    · exact ⟨s, hf, hs, by omega, trivial⟩
    · trivial
  | cons g l ih =>
    intro lo h hl
    rw [List.cons_append]
    unfold Way at h ⊢
    split
    · rename_i hk
      rw [if_pos hk] at h
      obtain ⟨s', h1, h2, h3, h4⟩ := h
      exact ⟨s', h1, h2, h3, ih h4 (by omega)⟩
    · rename_i hk
      rw [if_neg hk] at h
      exact ih h hl
theorem Way.snoc_say {win : Nat} {P : List Part} {top : Nat} {f : Frm} (hf : f.kind ≠ 1) {l : List Frm} : ∀ {lo : Nat}, Way win P top lo l → Way win P top lo (l ++ [f]) := by
  induction l with
  | nil =>
    intro lo _
    show Way win P top lo (f :: [])
    unfold Way
    rw [if_neg hf]; trivial
  | cons g l ih =>
    intro lo h
    rw [List.cons_append]
    unfold Way at h ⊢
    split
    · rename_i hk
      rw [if_pos hk] at h
      obtain ⟨s', h1, h2, h3, h4⟩ := h
      exact ⟨s', h1, h2, h3, ih h4⟩
    · rename_i hk
      rw [if_neg hk] at h
      exact ih h
theorem Acks.le {hi : Nat} {l : List Frm} : ∀ {lo : Nat}, Acks hi lo l → lo ≤ hi := by
  cases l with
  | nil => intro lo h; exact h
  | cons f l => intro lo h; obtain ⟨k, _, h2, h3, _⟩ := h; omega
theorem Acks.mono {hi : Nat} {l : List Frm} : ∀ {lo lo' : Nat}, Acks hi lo l → lo' ≤ lo → Acks hi lo' l := by
  cases l with
  | nil => intro lo lo' h hl; exact Nat.le_trans hl h
  | cons f l => intro lo lo' h hl; obtain ⟨k, h1, h2, h3, h4⟩ := h; exact ⟨k, h1, by omega, h3, h4⟩
theorem Acks.tail {hi lo : Nat} {f : Frm} {l : List Frm} (h : Acks hi lo (f :: l)) : Acks hi lo l := by
  obtain ⟨k, h1, h2, h3, h4⟩ := h; exact h4.mono h2
theorem Acks.grow {hi hi' : Nat} (hh : hi ≤ hi') {l : List Frm} : ∀ {lo : Nat}, Acks hi lo l → Acks hi' lo l := by
  induction l with
  | nil => intro lo h; exact Nat.le_trans h hh
  | cons f l ih => intro lo h; obtain ⟨k, h1, h2, h3, h4⟩ := h; exact ⟨k, h1, h2, by omega, ih h4⟩
theorem Acks.snoc {hi : Nat} {f : Frm} (hf : f.ack = (hi : Int) % 8) {l : List Frm} : ∀ {lo : Nat}, Acks hi lo l → Acks hi lo (l ++ [f]) := by
  induction l with
  | nil => intro lo h; exact ⟨hi, hf, h, Nat.le_refl _, Nat.le_refl _⟩
  | cons g l ih => intro lo h; obtain ⟨k, h1, h2, h3, h4⟩ := h; exact ⟨k, h1, h2, h3, ih h4⟩
structure Dir (c : Cfg) (put : List (List Int)) (t : Tx) (r : Rx) (got : List (List Int)) (D A : List Frm) (a b : Nat) : Prop where
  ca : t.count = a
  cb : r.count = b
  ab : a ≤ b
  bf : b ≤ a + t.flight.length
  al : a ≤ (pieces c.mps put).length
  fq : (pieces c.mps put).drop a = t.flight ++ t.queue
  jn : joins ((pieces c.mps put).take b) = some (r.join, got)
  rd : r.dead = false
  mtu : ∀ m ∈ put, (m.length : Int) ≤ c.mtu
  way : Way c.win.toNat (pieces c.mps put) (a + t.flight.length) b D
  acks : Acks b a A
section
variable {c : Cfg} {put : List (List Int)} {t t' : Tx} {r r' : Rx} {got : List (List Int)} {D A : List Frm} {a b : Nat} {f : Frm}
theorem Dir.top (h : Dir c put t r got D A a b) : a + t.flight.length ≤ (pieces c.mps put).length := by
  have h1 := congrArg List.length h.fq
  have h2 := h.al
  simp only [List.length_drop, List.length_append] at h1
  omega
theorem Dir.loseD (h : Dir c put t r got (f :: D) A a b) : Dir c put t r got D A a b := { h with way := h.way.tail }
theorem Dir.loseA (h : Dir c put t r got D (f :: A) a b) : Dir c put t r got D A a b := { h with acks := h.acks.tail }
theorem Dir.noD (h : Dir c put t r got D A a b) : Dir c put t r got [] A a b := { h with way := trivial }
theorem Dir.noA (h : Dir c put t r got D A a b) : Dir c put t r got D [] a b := { h with acks := h.ab }
theorem Dir.sayD (h : Dir c put t r got D A a b) (hf : f.kind ≠ 1) : Dir c put t r got (D ++ [f]) A a b := { h with way := h.way.snoc_say hf }
theorem Dir.expect (h : Dir c put t r got D A a b) (hr : RxI r) : r.expect = (b : Int) % 8 := by
  have := hr.num
  rw [h.cb] at this
  unfold numOf at this
  rw [if_neg (by omega)] at this
  exact this.symm
theorem Dir.acked (h : Dir c put t r got D A a b) (ht : TxI c t) : t.acked = (a : Int) % 8 := by
  have := ht.num
  rw [h.ca] at this
  unfold numOf at this
  rw [if_neg (by omega)] at this
  exact this.symm
theorem Dir.sayA (h : Dir c put t r got D A a b) (hr : RxI r) (hf : f.ack = r.expect) : Dir c put t r got D (A ++ [f]) a b := { h with acks := h.acks.snoc (by rw [hf]; exact h.expect hr) }
theorem Dir.txAlike (h : Dir c put t r got D A a b) (h1 : t'.count = t.count) (h2 : t'.flight = t.flight) (h3 : t'.queue = t.queue) : Dir c put t' r got D A a b :=
  ⟨by rw [h1]; exact h.ca, h.cb, h.ab, by rw [h2]; exact h.bf, h.al, by rw [h2, h3]; exact h.fq, h.jn, h.rd, h.mtu, by rw [h2]; exact h.way, h.acks⟩
theorem Dir.rxAlike (h : Dir c put t r got D A a b) (h1 : r'.count = r.count) (h2 : r'.join = r.join) (h3 : r'.dead = r.dead) : Dir c put t r' got D A a b :=
  ⟨h.ca, by rw [h1]; exact h.cb, h.ab, h.bf, h.al, h.fq, by rw [h2]; exact h.jn, by rw [h3]; exact h.rd, h.mtu, h.way, h.acks⟩
theorem Dir.puts (h : Dir c put t r got D A a b) (m : List Int) (hm : (m.length : Int) ≤ c.mtu) : Dir c (put ++ [m]) { t with queue := t.queue ++ segCut m c.mps } r got D A a b := by
  have ht := h.top
  have hb := h.bf
  have hp := pieces_snoc c.mps put m
  refine ⟨h.ca, h.cb, h.ab, h.bf, ?_, ?_, ?_, h.rd, ?_, ?_, h.acks⟩
  · rw [hp, List.length_append]; omega
  · rw [hp, List.drop_append_of_le_length h.al, h.fq, List.append_assoc]
  · rw [hp, List.take_append_of_le_length (by omega)]; exact h.jn
  · intro x hx
    rcases List.mem_append.mp hx with hx | hx
    · exact h.mtu x hx
    · rw [List.mem_singleton.mp hx]; exact hm
  · refine h.way.grow (fun s p hs => ?_) (Nat.le_refl _)
    rw [hp, List.getElem?_append_left (List.getElem?_eq_some_iff.mp hs).1]; exact hs
theorem txSend_some {g : Bool} {ack : Int} (h : (txSend g c t ack).2 = some f) : txStops g c t = false ∧ (txSend g c t ack).1 = { txMove t with sent := t.sent + 1 } ∧ f = dataFrm ((txMove t).flight.getD t.sent.toNat part0) ((t.acked + t.sent) % 8) ack := by
  unfold txSend at h ⊢
  split at h
  · cases h
  · rename_i hs
    rw [if_neg hs]
    injection h with h
    exact ⟨by simpa using hs, rfl, h.symm⟩
theorem txSend_none {g : Bool} {ack : Int} (h : (txSend g c t ack).2 = none) : (txSend g c t ack).1 = t := by
  unfold txSend at h ⊢
  split at h
  · rename_i hs; rw [if_pos hs]
  · cases h
theorem txMove_all (hq : t.sent = t.flight.length → t.queue ≠ []) : (txMove t).flight ++ (txMove t).queue = t.flight ++ t.queue ∧ t.flight.length ≤ (txMove t).flight.length ∧ (txMove t).count = t.count := by
  unfold txMove
  split
  · rename_i hs
    refine ⟨?_, by simp, rfl⟩
    simp only [List.append_assoc, List.take_append_drop]
  · exact ⟨rfl, Nat.le_refl _, rfl⟩
def MaySend (c : Cfg) (put : List (List Int)) (t : Tx) (f : Frm) : Prop := ∃ s, isP (pieces c.mps put) f s ∧ s < t.count.toNat + t.flight.length ∧ t.count.toNat + t.flight.length ≤ s + c.win.toNat
theorem Dir.sendD (h : Dir c put t r got D A a b) (hf : MaySend c put t f) : Dir c put t r got (D ++ [f]) A a b := by
  obtain ⟨s, h1, h2, h3⟩ := hf
  rw [h.ca, Int.toNat_natCast] at h2 h3
  exact { h with way := h.way.snoc h1 h2 h3 h.bf }
theorem Dir.send {g : Bool} {ack : Int} (h : Dir c put t r got D A a b) (ht : TxI c t) (hl : Low t) (hf : (txSend g c t ack).2 = some f) : Dir c put (txSend g c t ack).1 r got D A a b ∧ MaySend c put (txSend g c t ack).1 f ∧ f.ack = ack ∧ f.kind = 1 ∧ (txSend g c t ack).1.sent = t.sent + 1 ∧ isP (pieces c.mps put) f (a + t.sent.toNat) := by
  obtain ⟨h1, h2, h3⟩ := txSend_some hf
  rw [h2]
  obtain ⟨k1, k2, k3, k4⟩ := txStops_no h1
  obtain ⟨m1, m2, m3, m4⟩ := txMove_ok ht hl k4
  obtain ⟨n1, n2, n3⟩ := txMove_all (fun hs => (k4 hs).2.1)
  have hse := ht.sent
  have hw := m1.win
  have hbf := h.bf
  have hac := h.acked ht
  have hca := h.ca
  have hlt : t.sent.toNat < (txMove t).flight.length := by omega
  have hP : isP (pieces c.mps put) f (a + t.sent.toNat) := by
    refine ⟨?_, ?_⟩
    · rw [h3]; simp only [dataFrm]; rw [hac]; omega
    · have e : (pieces c.mps put)[a + t.sent.toNat]? = ((pieces c.mps put).drop a)[t.sent.toNat]? := by rw [List.getElem?_drop]
      rw [e, h.fq, ← n1, List.getElem?_append_left hlt, h3]
      simp only [dataFrm]
      rw [List.getD_eq_getElem?_getD, List.getElem?_eq_getElem hlt]
      rfl
  refine ⟨⟨by rw [← h.ca]; exact n3, h.cb, h.ab, by simp only; omega, h.al, by rw [h.fq, ← n1], h.jn, h.rd, h.mtu, ?_, h.acks⟩, ⟨a + t.sent.toNat, hP, ?_, ?_⟩, by rw [h3]; rfl, by rw [h3]; rfl, rfl, hP⟩
  · exact h.way.grow (fun s p hs => hs) (by simp only; omega)
  · simp only [n3, hca]; omega
  · simp only [n3, hca]; omega
theorem Dir.hearA (h : Dir c put t r got D (f :: A) a b) (ht : TxI c t) (hd : t.dead = false) : ∃ k : Nat, Dir c put (txHear t f) r got D A k b ∧ (txHear t f).dead = false ∧ a ≤ k ∧ f.ack = (k : Int) % 8 ∧ (txHear t f).flight = t.flight.drop (k - a) ∧ (txHear t f).queue = t.queue := by
  obtain ⟨k, h1, h2, h3, h4⟩ := h.acks
  have hac := h.acked ht
  have hbf := h.bf
  have hw := ht.win
  have hc := ht.cfg.win
  have hfar : far t.acked f.ack = (k : Int) - a := by unfold far; rw [hac, h1]; omega
  have hn : ¬ far t.acked f.ack > t.flight.length := by rw [hfar]; omega
  have e : txHear t f = { t with
      flight := t.flight.drop (k - a)
      acked := f.ack
      count := t.count + far t.acked f.ack
      held := if f.kind = 2 then decide (f.say = 2) else t.held
      asks := t.asks && !f.fin
      tries := if (f.fin && t.asks) = true then 0 else t.tries
      sent := if (f.fin && t.asks) = true then 0 else if f.kind = 2 ∧ f.say = 1 ∧ t.asks = false then 0 else max 0 (t.sent - far t.acked f.ack) } := by
    unfold txHear
    rw [if_neg (by simp [hd]), if_neg hn]
    have : (far t.acked f.ack).toNat = k - a := by rw [hfar]; omega
    simp only [this]
  refine ⟨k, ?_, by rw [e]; exact hd, h2, h1, by rw [e], by rw [e]⟩
  rw [e]
  have hfl : (t.flight.drop (k - a)).length = t.flight.length - (k - a) := List.length_drop
  refine ⟨by simp only [hfar, h.ca]; omega, h.cb, h3, by simp only [hfl]; omega, ?_, ?_, h.jn, h.rd, h.mtu, ?_, h4⟩
  · have := h.top; omega
  · have e2 : (pieces c.mps put).drop k = ((pieces c.mps put).drop a).drop (k - a) := by rw [List.drop_drop]; congr 1; omega
    rw [e2, h.fq, List.drop_append_of_le_length (by omega)]
  · simp only [hfl]
    have : k + (t.flight.length - (k - a)) = a + t.flight.length := by omega
    rw [this]; exact h.way
theorem Way.next {win : Nat} (hwin : win ≤ 4) {P : List Part} {top b : Nat} (ht : top ≤ b + win) {l : List Frm} (h : Way win P top b (f :: l)) (hk : f.kind = 1) (hs : f.seq = (b : Int) % 8) : isP P f b ∧ b < top ∧ Way win P top (b + 1) l := by
  unfold Way at h
  rw [if_pos hk] at h
  obtain ⟨s, h1, h2, h3, h4⟩ := h
  have h5 := h1.1
  have : s = b := by omega
  subst this
  exact ⟨h1, h2, h4.mono (by omega)⟩
theorem pieces_mem {c : Cfg} {put : List (List Int)} {s : Nat} {p : Part} (h : (pieces c.mps put)[s]? = some p) : ∃ m ∈ put, p ∈ segCut m c.mps := by
  have := List.mem_of_getElem? h
  unfold pieces at this
  exact List.mem_flatMap.mp this
theorem Dir.joined (h : Dir c put t r got D A a b) (hc : CfgI c) : joins (pieces c.mps put) = some (join0, put) := by
  have h1 := hc.mps; have h2 := hc.mtu
  exact joins_pieces (by omega) (by omega) (fun m hm => by have := h.mtu m hm; omega)
theorem Dir.prefix (h : Dir c put t r got D A a b) (hc : CfgI c) : ∃ x, put = got ++ x := by
  obtain ⟨s, h1, x, h2⟩ := joins_take (h.joined hc) b
  rw [h.jn] at h1
  injection h1 with h1
  subst h1
  exact ⟨x, h2⟩
theorem goWait_02 (b : Bool) : 0 ≤ goWait b ∧ goWait b ≤ 2 := by cases b <;> simp [goWait]
theorem tell_one (got : List (List Int)) (m : List Int) (h : got.length < 60) : tell got [m] = got ++ [m] := by simp [tell, h]
theorem Dir.hearD (h : Dir c put t r got (f :: D) A a b) (hc : CfgI c) (ht : TxI c t) (hr : RxI r) (hp : put.length ≤ 60) (hk : f.kind = 1 ∨ f.kind = 2) :
    ∃ b', b ≤ b' ∧ Dir c put t (rxHear c r f).1 (tell got (rxHear c r f).2.1) D A a b' ∧ (∀ x ∈ (rxHear c r f).2.2, ∃ fin say, x = sayFrm (rxHear c r f).1.expect false fin say ∧ 0 ≤ say ∧ say ≤ 2) ∧ (r.busy = true → b' = b) ∧ (b' ≠ b → b' = b + 1 ∧ isP (pieces c.mps put) f b ∧ f.kind = 1) ∧ (f.kind = 1 → r.busy = false → f.seq = r.expect → b' = b + 1) ∧ ((rxHear c r f).1.busy = r.busy) := by
  have hex := h.expect hr
  have hw := ht.win
  have hcw := hc.win
  have hab := h.ab
  unfold rxHear
  rw [if_neg (by simp [h.rd])]
  split
  · rename_i hk2
    split
    · refine ⟨b, Nat.le_refl _, ?_, ?_, fun _ => rfl, fun hn => absurd rfl hn, fun h1 => by omega, rfl⟩
      · exact h.loseD.rxAlike rfl rfl rfl
      · intro x hx; rw [List.mem_singleton.mp hx]; exact ⟨_, _, rfl, goWait_02 _⟩
    · exact ⟨b, Nat.le_refl _, h.loseD, by simp, fun _ => rfl, fun hn => absurd rfl hn, fun h1 => by omega, rfl⟩
  · rename_i hk2
    have hk1 : f.kind = 1 := by omega
    split
    · rename_i hbusy
      refine ⟨b, Nat.le_refl _, h.loseD, ?_, fun _ => rfl, fun hn => absurd rfl hn, fun _ h2 => (by rw [hbusy] at h2; cases h2), rfl⟩
      intro x hx; rw [List.mem_singleton.mp hx]; exact ⟨_, _, rfl, by omega⟩
    · rename_i hbusy
      split
      · rename_i hseq
        rw [hex] at hseq
        obtain ⟨h1, h2, h3⟩ := Way.next (by omega) (by omega) h.way hk1 hseq
        have hj := h.joined hc
        obtain ⟨j1, j2⟩ := joins_next hj h1.2 h.jn
        obtain ⟨m, hm, hpm⟩ := pieces_mem h1.2
        obtain ⟨q1, q2, q3, q4⟩ := segCut_mem hpm
        simp only at q2 q3 j1 j2
        have hmtu := h.mtu m hm
        have hcnt : r.count ≠ 9999 := by
          have := pieces_length c.mps put
          have := h.top
          rw [h.cb]; omega
        have hx : rxTake c r f = ({ r with join := (segPut r.join ⟨f.seg, f.len, f.data⟩).1, expect := numNext r.expect, count := r.count + 1, again := false }, if (segPut r.join ⟨f.seg, f.len, f.data⟩).2.2 = 2 then [(segPut r.join ⟨f.seg, f.len, f.data⟩).2.1] else []) := by
          unfold rxTake
          rw [if_neg (by omega)]
          simp only
          rw [if_neg j1]
        simp only [hx]
        refine ⟨b + 1, by omega, ?_, by simp, fun hb => absurd hb hbusy, fun _ => ⟨rfl, h1, hk1⟩, fun _ _ _ => rfl, trivial⟩
        have hgot : tell got (if (segPut r.join ⟨f.seg, f.len, f.data⟩).2.2 = 2 then [(segPut r.join ⟨f.seg, f.len, f.data⟩).2.1] else []) = if (segPut r.join ⟨f.seg, f.len, f.data⟩).2.2 = 2 then got ++ [(segPut r.join ⟨f.seg, f.len, f.data⟩).2.1] else got := by
          split
          · rename_i h4
            obtain ⟨s, k1, x, k2⟩ := joins_take hj (b + 1)
            rw [j2] at k1
            injection k1 with k1
            rw [if_pos h4] at k1
            rw [← k1] at k2
            simp only at k2
            have := congrArg List.length k2
            simp only [List.length_append, List.length_cons, List.length_nil] at this
            exact tell_one _ _ (by omega)
          · rfl
        rw [hgot]
        exact ⟨h.ca, by simp only [h.cb]; omega, by omega, by omega, h.al, h.fq, j2, h.rd, h.mtu, h3, h.acks.grow (by omega)⟩
      · rename_i hseq
        split
        · refine ⟨b, Nat.le_refl _, h.loseD.rxAlike rfl rfl rfl, ?_, fun _ => rfl, fun hn => absurd rfl hn, fun _ _ h3 => absurd h3 hseq, rfl⟩
          intro x hx; rw [List.mem_singleton.mp hx]; exact ⟨_, _, rfl, by omega⟩
        · exact ⟨b, Nat.le_refl _, h.loseD, by simp, fun _ => rfl, fun hn => absurd rfl hn, fun _ _ h3 => absurd h3 hseq, rfl⟩
end
def MsgI (m : Msg) : Prop := (m.bent = true ∧ frmRead m.bytes = none) ∨ (m.bent = false ∧ ∃ f, frmOk f = true ∧ (f.kind = 1 ∨ f.kind = 2) ∧ Bys f.data ∧ m.bytes = frmBytes f)
structure NumI (w : Wld) : Prop where
  ok : WldI w
  mode : w.cfg.mode = 1
  msg : ∀ i, i < 2 → ∀ m ∈ netAt w i, MsgI m
  bys : ∀ i, i < 2 → ∀ m ∈ (endAt w i).put, Bys m
  dir : ∀ i, i < 2 → ∃ a b, Dir w.cfg (endAt w i).put (endAt w i).tx (endAt w (1 - i)).rx (endAt w (1 - i)).got (rdN (netAt w (1 - i))) (rdN (netAt w i)) a b
theorem rdN_snoc (l : List Msg) {f : Frm} (h : frmOk f = true) : rdN (l ++ [⟨false, frmBytes f⟩]) = rdN l ++ [f] := by
  unfold rdN
  rw [List.filterMap_append]
  simp [frmRead_bytes h]
theorem rdN_cons_some {m : Msg} {l : List Msg} {f : Frm} (h : frmRead m.bytes = some f) : rdN (m :: l) = f :: rdN l := by simp [rdN, h]
theorem rdN_cons_none {m : Msg} {l : List Msg} (h : frmRead m.bytes = none) : rdN (m :: l) = rdN l := by simp [rdN, h]
theorem MsgI.read {m : Msg} (h : MsgI m) {f : Frm} (hf : frmRead m.bytes = some f) : m.bent = false ∧ frmOk f = true ∧ (f.kind = 1 ∨ f.kind = 2) ∧ Bys f.data := by
  rcases h with ⟨h1, h2⟩ | ⟨h1, g, h2, h3, h4, h5⟩
  · rw [h2] at hf; cases hf
  · rw [h5, frmRead_bytes h2] at hf
    injection hf with hf
    subst hf
    exact ⟨h1, h2, h3, h4⟩
theorem sayFrm_ok {ack : Int} {poll fin : Bool} {say : Int} (h1 : 0 ≤ ack ∧ ack ≤ 7) (h2 : (poll && fin) = false) (h3 : 0 ≤ say ∧ say ≤ 2) : frmOk (sayFrm ack poll fin say) = true := by
  simp only [frmOk, sayFrm, isNum_iff.mpr h1, h2, inB_iff.mpr h3]
  simp
theorem dataFrm_ok {p : Part} {seq ack : Int} (hp : partOk p = true) (h1 : 0 ≤ seq ∧ seq ≤ 7) (h2 : 0 ≤ ack ∧ ack ≤ 7) : frmOk (dataFrm p seq ack) = true := by
  unfold partOk at hp
  simp only [frmOk, dataFrm, isNum_iff.mpr h1, isNum_iff.mpr h2, hp]
  simp
theorem two_cases {i : Nat} (h : i < 2) : i = 0 ∨ i = 1 := by omega
theorem NumI.say1 {w : Wld} (h : NumI w) {i : Nat} (hi : i < 2) {f : Frm} (hf : frmOk f = true) (hk : f.kind = 1 ∨ f.kind = 2) (hb : Bys f.data) (ha : f.ack = (endAt w i).rx.expect) (hs : f.kind = 1 → MaySend w.cfg (endAt w i).put (endAt w i).tx f) : NumI (say1 w i f) := by
  have hok := say1_I (who := i) h.ok f
  unfold Go.Proofs.YtnkhjnieidlknaaGreat.say1 at hok ⊢
  split at hok
  · rename_i hl
    rw [if_pos hl]
    have hj : 1 - i < 2 := by omega
    have hij : 1 - (1 - i) = i := by omega
    refine ⟨hok, h.mode, ?_, h.bys, ?_⟩
    · intro j hj' m hm
      rw [netAt_setNet h.ok.ln hj] at hm
      split at hm
      · rename_i e
        subst e
        rcases List.mem_append.mp hm with hm | hm
        · exact h.msg _ hj m hm
        · rw [List.mem_singleton.mp hm]; exact .inr ⟨rfl, f, hf, hk, hb, rfl⟩
      · exact h.msg j hj' m hm
    · intro j hj'
      obtain ⟨a, b, hd⟩ := h.dir j hj'
      refine ⟨a, b, ?_⟩
      simp only [endAt_setNet, cfg_setNet, netAt_setNet h.ok.ln hj]
      by_cases e : j = i
      · subst e
        rw [if_pos rfl, if_neg (by omega), rdN_snoc _ hf]
        rcases hk with hk | hk
        · exact hd.sendD (hs hk)
        · exact hd.sayD (by omega)
      · have e' : j = 1 - i := by omega
        subst e'
        rw [if_neg (by omega), if_pos rfl, rdN_snoc _ hf]
        refine hd.sayA (h.ok.ends _ (by omega)).rx ?_
        rw [hij, ha]
  · rename_i hl
    rw [if_neg hl]; exact h
theorem endAt_say1 (w : Wld) (i j : Nat) (f : Frm) : endAt (say1 w i f) j = endAt w j := by unfold say1; split <;> rfl
theorem endAt_says (i j : Nat) (l : List Frm) : ∀ w : Wld, endAt (says w i l) j = endAt w j := by
  induction l with
  | nil => intro w; rfl
  | cons f l ih => intro w; exact (ih _).trans (endAt_say1 w i j f)
theorem NumI.says {i : Nat} (hi : i < 2) (l : List Frm) : ∀ {w : Wld}, NumI w → (∀ x ∈ l, ∃ fin say, x = sayFrm (endAt w i).rx.expect false fin say ∧ 0 ≤ say ∧ say ≤ 2) → NumI (says w i l) := by
  induction l with
  | nil => intro w h _; exact h
  | cons f l ih =>
    intro w h hl
    obtain ⟨fin, say, rfl, h1, h2⟩ := hl f List.mem_cons_self
    have he := (h.ok.ends i hi).rx.expect
    refine ih (h.say1 hi (sayFrm_ok he rfl ⟨h1, h2⟩) (.inr rfl) (by intro x hx; simp [sayFrm] at hx) rfl (fun hk => by simp [sayFrm] at hk)) ?_
    intro x hx
    rw [endAt_say1]
    exact hl x (List.mem_cons_of_mem _ hx)
theorem NumI.endTo {w : Wld} (h : NumI w) {i : Nat} (hi : i < 2) {e : End} (he : EndI w.cfg e) (hb : ∀ m ∈ e.put, Bys m)
    (h1 : ∀ a b, Dir w.cfg (endAt w i).put (endAt w i).tx (endAt w (1 - i)).rx (endAt w (1 - i)).got (rdN (netAt w (1 - i))) (rdN (netAt w i)) a b → ∃ a b, Dir w.cfg e.put e.tx (endAt w (1 - i)).rx (endAt w (1 - i)).got (rdN (netAt w (1 - i))) (rdN (netAt w i)) a b)
    (h2 : ∀ a b, Dir w.cfg (endAt w (1 - i)).put (endAt w (1 - i)).tx (endAt w i).rx (endAt w i).got (rdN (netAt w i)) (rdN (netAt w (1 - i))) a b → ∃ a b, Dir w.cfg (endAt w (1 - i)).put (endAt w (1 - i)).tx e.rx e.got (rdN (netAt w i)) (rdN (netAt w (1 - i))) a b) : NumI (setEnd w i e) := by
  have hij : 1 - (1 - i) = i := by omega
  refine ⟨h.ok.setEnd hi he, h.mode, h.msg, ?_, ?_⟩
  · intro j hj m hm
    rw [endAt_setEnd h.ok.le hi] at hm
    split at hm
    · exact hb m hm
    · exact h.bys j hj m hm
  · intro j hj
    obtain ⟨a, b, hd⟩ := h.dir j hj
    simp only [netAt_setEnd, cfg_setEnd, endAt_setEnd h.ok.le hi]
    by_cases e' : j = i
    · subst e'
      rw [if_pos rfl, if_neg (by omega)]
      exact h1 a b hd
    · have e' : j = 1 - i := by omega
      subst e'
      rw [if_neg (by omega), if_pos hij]
      rw [hij] at hd ⊢
      exact h2 a b hd
theorem NumI.netTo {w : Wld} (h : NumI w) {i : Nat} (hi : i < 2) {l : List Msg} (hl : NetI l) (hm : ∀ m ∈ l, MsgI m)
    (hr : rdN l = rdN (netAt w i) ∨ (∃ f, rdN (netAt w i) = f :: rdN l) ∨ rdN l = []) : NumI (setNet w i l) := by
  refine ⟨h.ok.setNet hi hl, h.mode, ?_, h.bys, ?_⟩
  · intro j hj m hm'
    rw [netAt_setNet h.ok.ln hi] at hm'
    split at hm'
    · exact hm m hm'
    · exact h.msg j hj m hm'
  · intro j hj
    obtain ⟨a, b, hd⟩ := h.dir j hj
    refine ⟨a, b, ?_⟩
    simp only [endAt_setNet, cfg_setNet, netAt_setNet h.ok.ln hi]
    by_cases e : j = i
    · subst e
      rw [if_pos rfl, if_neg (by omega)]
      rcases hr with hr | ⟨f, hr⟩ | hr
      · rw [hr]; exact hd
      · rw [hr] at hd; exact hd.loseA
      · rw [hr]; exact hd.noA
    · have e' : j = 1 - i := by omega
      subst e'
      have hij : 1 - (1 - i) = i := by omega
      rw [hij] at hd ⊢
      rw [if_pos rfl, if_neg (by omega)]
      rcases hr with hr | ⟨f, hr⟩ | hr
      · rw [hr]; exact hd
      · rw [hr] at hd; exact hd.loseD
      · rw [hr]; exact hd.noD
theorem NumI.drop {w : Wld} (h : NumI w) {i : Nat} (hi : i < 2) {m : Msg} {l : List Msg} (hn : netAt w i = m :: l) : NumI (setNet w i l) := by
  have hnet := h.ok.net i hi
  rw [hn] at hnet
  refine h.netTo hi hnet.tail (fun x hx => h.msg i hi x (by rw [hn]; exact List.mem_cons_of_mem _ hx)) ?_
  rw [hn]
  cases hf : frmRead m.bytes with
  | none => left; rw [rdN_cons_none hf]
  | some f => right; left; exact ⟨f, rdN_cons_some hf⟩
theorem NumI.hear {w : Wld} (h : NumI w) {i : Nat} (hi : i < 2) : NumI (hear1 w i) := by
  unfold hear1
  split
  · exact h
  · rename_i m l hn
    have hdrop := h.drop hi hn
    have hmsg := h.msg i hi m (by rw [hn]; exact List.mem_cons_self)
    split
    · exact hdrop
    · rename_i f hf
      obtain ⟨m1, m2, m3, m4⟩ := hmsg.read hf
      have hx := h.ok.ends i hi
      have hy := h.ok.ends (1 - i) (by omega)
      have hij : 1 - (1 - i) = i := by omega
      have hfb := frmOk_bound m2
      unfold hearF
      simp only
      rw [if_pos (by exact h.mode), if_pos m3]
      simp only [endAt_setNet, cfg_setNet]
      obtain ⟨a, b, hd⟩ := h.dir i hi
      obtain ⟨a', b', hd'⟩ := h.dir (1 - i) (by omega)
      rw [hij] at hd'
      rw [hn, rdN_cons_some hf] at hd hd'
      have h1 := txHear_ok (f := f) hx.tx hx.low (by omega)
      have h2 := rxHear_ok (c := w.cfg) hx.rx m2 m3
      obtain ⟨b2, g1, g2, g3, g4⟩ := hd'.hearD h.ok.cfg hy.tx hx.rx hy.put.1 m3
      have hE : EndI w.cfg { endAt w i with tx := txHear (endAt w i).tx f, rx := (rxHear w.cfg (endAt w i).rx f).1, got := tell (endAt w i).got (rxHear w.cfg (endAt w i).rx f).2.1 } :=
        { hx with tx := h1.1, low := h1.2, rx := h2.1, got := tell_I hx.got h2.2.1 }
      refine NumI.says hi _ ?_ ?_
      · have hnn : netAt (setNet w i l) i = l := by rw [netAt_setNet h.ok.ln hi, if_pos rfl]
        have hno : netAt (setNet w i l) (1 - i) = netAt w (1 - i) := by rw [netAt_setNet h.ok.ln hi, if_neg (by omega)]
        refine hdrop.endTo hi hE (h.bys i hi) ?_ ?_
        · intro a1 b1 _
          simp only [endAt_setNet, cfg_setNet, hnn, hno]
          by_cases hdead : (endAt w i).tx.dead = true
          · refine ⟨a, b, ?_⟩
            have : txHear (endAt w i).tx f = (endAt w i).tx := by unfold txHear; rw [if_pos hdead]
            rw [this]; exact hd.loseA
          · obtain ⟨k, q1, q2⟩ := hd.hearA hx.tx (by simpa using hdead)
            exact ⟨k, b, q1⟩
        · intro a1 b1 _
          simp only [endAt_setNet, cfg_setNet, hnn, hno]
          exact ⟨a', b2, g2⟩
      · intro x hx'
        rw [endAt_setEnd (by exact h.ok.le) hi, if_pos rfl]
        exact g3 x hx'
theorem txPut_alike {c : Cfg} {t : Tx} {sdu : List Int} : (txPut c t sdu).1.dead = t.dead ∧ (txPut c t sdu).1.asks = t.asks ∧ (txPut c t sdu).1.tries = t.tries := by
  unfold txPut; split
  · exact ⟨rfl, rfl, rfl⟩
  · split <;> exact ⟨rfl, rfl, rfl⟩
theorem txTick_alike {c : Cfg} {t : Tx} {ack : Int} {busy : Bool} : (txTick c t ack busy).1.count = t.count ∧ (txTick c t ack busy).1.flight = t.flight ∧ (txTick c t ack busy).1.queue = t.queue := by
  unfold txTick; split
  · exact ⟨rfl, rfl, rfl⟩
  · split <;> exact ⟨rfl, rfl, rfl⟩
theorem txTick_some {c : Cfg} {t : Tx} {ack : Int} {busy : Bool} {f : Frm} (h : (txTick c t ack busy).2 = some f) : f = sayFrm ack true false (goWait busy) := by
  unfold txTick at h
  split at h
  · cases h
  · split at h
    · cases h
    · injection h with h; exact h.symm
theorem byNum_N {g : Bool} {w : Wld} (h : NumI w) {i : Nat} (hi : i < 2) (e : Evt) (hb : Bys e.data) : NumI (byNum g w i e) := by
  have hx := h.ok.ends i hi
  have hij : 1 - (1 - i) = i := by omega
  unfold byNum
  simp only
  split
  · split
    · rename_i hl
      have hp := txPut_ok (sdu := e.data) hx.tx hx.low
      cases hy : (txPut w.cfg (endAt w i).tx e.data).2 with
      | true =>
        obtain ⟨p1, p2, p3⟩ := txPut_yes hy
        rw [if_pos rfl]
        refine h.endTo hi { hx with tx := hp.1, low := hp.2, put := put_I hx.put hl p1 h.ok.cfg } ?_ ?_ (fun a b hd => ⟨a, b, hd⟩)
        · intro m hm
          rcases List.mem_append.mp hm with hm | hm
          · exact h.bys i hi m hm
          · rw [List.mem_singleton.mp hm]; exact hb
        · intro a b hd
          refine ⟨a, b, ?_⟩
          simp only [p3]
          exact hd.puts e.data p1
      | false =>
        have p3 := txPut_no hy
        rw [if_neg (by simp)]
        refine h.endTo hi { hx with tx := hp.1, low := hp.2 } (h.bys i hi) ?_ (fun a b hd => ⟨a, b, hd⟩)
        intro a b hd
        refine ⟨a, b, ?_⟩
        simp only [p3]
        exact hd
    · exact h
  · split
    · split
      · rename_i hl
        have hp := txSend_ok (g := g) (ack := (endAt w i).rx.expect) hx.tx hx.low
        obtain ⟨a, b, hd⟩ := h.dir i hi
        cases hs : (txSend g w.cfg (endAt w i).tx (endAt w i).rx.expect).2 with
        | none =>
          refine h.endTo hi { hx with tx := hp.1, low := hp.2 } (h.bys i hi) ?_ (fun a b hd => ⟨a, b, hd⟩)
          intro a b hd
          refine ⟨a, b, ?_⟩
          simp only [txSend_none hs]; exact hd
        | some f =>
          have hsd := hd.send hx.tx hx.low hs
          have hn := h.endTo (e := { endAt w i with tx := (txSend g w.cfg (endAt w i).tx (endAt w i).rx.expect).1 }) hi { hx with tx := hp.1, low := hp.2 } (h.bys i hi) (fun a b hd => ⟨a, b, (hd.send hx.tx hx.low hs).1⟩) (fun a b hd => ⟨a, b, hd⟩)
          obtain ⟨s1, s2, s3⟩ := txSend_some hs
          obtain ⟨k1, k2, k3, k4⟩ := txStops_no s1
          obtain ⟨m1, m2, m3, m4⟩ := txMove_ok hx.tx hx.low k4
          have hse := hx.tx.sent
          have hlt : (endAt w i).tx.sent.toNat < (txMove (endAt w i).tx).flight.length := by omega
          have hg : (txMove (endAt w i).tx).flight.getD (endAt w i).tx.sent.toNat part0 ∈ (txMove (endAt w i).tx).flight := by
            rw [List.getD_eq_getElem?_getD, List.getElem?_eq_getElem hlt]; exact List.getElem_mem hlt
          refine hn.say1 hi ?_ (.inl hsd.2.2.2.1) ?_ ?_ ?_
          · rw [s3]
            exact dataFrm_ok (m1.fl _ hg).1 (by omega) hx.rx.expect
          · obtain ⟨_, hpp⟩ := hsd.2.2.2.2.2
            obtain ⟨m, hm, hpm⟩ := pieces_mem hpp
            exact (segCut_mem hpm).2.2.2 (h.bys i hi m hm)
          · rw [endAt_setEnd h.ok.le hi, if_pos rfl]; exact hsd.2.2.1
          · intro _
            rw [endAt_setEnd h.ok.le hi, if_pos rfl]
            exact hsd.2.1
      · exact h
    · split
      · have hp := txTick_ok (ack := (endAt w i).rx.expect) (busy := (endAt w i).rx.busy) hx.tx hx.low
        obtain ⟨t1, t2, t3⟩ := txTick_alike (c := w.cfg) (t := (endAt w i).tx) (ack := (endAt w i).rx.expect) (busy := (endAt w i).rx.busy)
        have hn := h.endTo (e := { endAt w i with tx := (txTick w.cfg (endAt w i).tx (endAt w i).rx.expect (endAt w i).rx.busy).1 }) hi { hx with tx := hp.1, low := hp.2 } (h.bys i hi) (fun a b hd => ⟨a, b, hd.txAlike t1 t2 t3⟩) (fun a b hd => ⟨a, b, hd⟩)
        cases hs : (txTick w.cfg (endAt w i).tx (endAt w i).rx.expect (endAt w i).rx.busy).2 with
        | none => exact hn
        | some f =>
          have := txTick_some hs
          subst this
          refine hn.say1 hi (sayFrm_ok hx.rx.expect rfl (goWait_02 _)) (.inr rfl) (by intro x hx; simp [sayFrm] at hx) ?_ (fun hk => by simp [sayFrm] at hk)
          rw [endAt_setEnd h.ok.le hi, if_pos rfl]; rfl
      · split
        · have hp := rxBusy_ok (b := decide (e.v = 1)) hx.rx
          refine NumI.says hi _ (h.endTo hi { hx with rx := hp } (h.bys i hi) (fun a b hd => ⟨a, b, hd⟩) ?_) ?_
          · intro a b hd
            refine ⟨a, b, ?_⟩
            unfold rxBusy
            split
            · exact hd
            · exact hd.rxAlike rfl rfl rfl
          · intro x hx'
            rw [endAt_setEnd h.ok.le hi, if_pos rfl]
            unfold rxBusy at hx' ⊢
            split at hx'
            · simp at hx'
            · rename_i hc
              rw [if_neg hc]
              rw [List.mem_singleton.mp hx']
              exact ⟨_, _, rfl, goWait_02 _⟩
        · split
          · split
            · exact h
            · exact h.say1 hi (sayFrm_ok hx.rx.expect rfl (goWait_02 _)) (.inr rfl) (by intro x hx; simp [rxAck, sayFrm] at hx) rfl (fun hk => by simp [rxAck, sayFrm] at hk)
          · exact h
theorem step_N {g : Bool} {w : Wld} (h : NumI w) (e : Evt) (hb : Bys e.data) (h11 : e.kind ≠ 11) : NumI (step g w e) := by
  unfold step
  split
  · exact h
  · rename_i hw
    have hw' : e.who.toNat < 2 := by omega
    simp only
    split
    · exact h.hear hw'
    · split
      · cases hn : netAt w e.who.toNat with
        | nil =>
          refine h.netTo hw' ⟨by simp, by simp⟩ (by simp) (.inr (.inr rfl))
        | cons m l => exact h.drop hw' hn
      · split
        · split
          · exact h
          · rename_i m l hn
            have hnet := h.ok.net _ hw'
            have hmsg := h.msg _ hw' m (by rw [hn]; exact List.mem_cons_self)
            have hdrop : ∀ x ∈ l, MsgI x := fun x hx => h.msg _ hw' x (by rw [hn]; exact List.mem_cons_of_mem _ hx)
            rw [hn] at hnet
            have hN : NetI (bendM m e.at_ e.v :: l) := by
              refine ⟨by have := hnet.1; simpa using this, fun x hx => ?_⟩
              rcases List.mem_cons.mp hx with rfl | hx
              · rw [bendM_length]; exact hnet.2 m List.mem_cons_self
              · exact hnet.2 x (List.mem_cons_of_mem _ hx)
            rcases hmsg with ⟨hm1, hm2⟩ | ⟨hm1, f, hm2, hm3, hm4, hm5⟩
            · have : bendM m e.at_ e.v = m := by unfold bendM; rw [if_neg (by rintro ⟨_, _, _, _, h5⟩; rw [hm1] at h5; cases h5)]
              rw [this]
              refine h.netTo hw' hnet ?_ (.inl (by rw [hn]))
              intro x hx
              rcases List.mem_cons.mp hx with rfl | hx
              · exact .inl ⟨hm1, hm2⟩
              · exact hdrop x hx
            · rcases bendM_read hm2 hm4 hm5 e.at_ e.v with hbm | ⟨b1, b2, b3⟩
              · rw [hbm]
                refine h.netTo hw' hnet ?_ (.inl (by rw [hn]))
                intro x hx
                rcases List.mem_cons.mp hx with rfl | hx
                · exact .inr ⟨hm1, f, hm2, hm3, hm4, hm5⟩
                · exact hdrop x hx
              · refine h.netTo hw' hN ?_ (.inr (.inl ⟨f, ?_⟩))
                · intro x hx
                  rcases List.mem_cons.mp hx with rfl | hx
                  · exact .inl ⟨b1, b2⟩
                  · exact hdrop x hx
                · rw [hn, rdN_cons_none b2, rdN_cons_some (by rw [hm5]; exact frmRead_bytes hm2)]
        · split
          · have hl := h.ok.link
            have hok : WldI { w with net := [[], []], link := 1 - w.link } := by
              have := step_I (g := g) h.ok ⟨10, 0, 0, 0, []⟩
              simpa [step] using this
            have hn : ∀ i, i < 2 → netAt { w with net := [[], []], link := 1 - w.link } i = [] := by
              intro i hi
              rcases two_cases hi with rfl | rfl <;> rfl
            refine ⟨hok, h.mode, ?_, h.bys, ?_⟩
            · intro i hi m hm; rw [hn i hi] at hm; simp at hm
            · intro i hi
              obtain ⟨a, b, hd⟩ := h.dir i hi
              rw [hn i hi, hn (1 - i) (by omega)]
              exact ⟨a, b, hd.noD.noA⟩
          · rw [if_pos h.mode]
            exact byNum_N h hw' e hb
theorem wldNew_N {c : Cfg} (h : CfgI c) (hm : c.mode = 1) : NumI (wldNew c) := by
  have hI := wldNew_I h
  have e : wldNew c = ⟨c, [end0, end0], [[], []], 0⟩ := by unfold wldNew; rw [if_pos (cfgOk_iff.mpr h)]
  have he : ∀ i, i < 2 → endAt (wldNew c) i = end0 := by
    intro i hi; rw [e]; rcases two_cases hi with rfl | rfl <;> rfl
  have hn : ∀ i, i < 2 → netAt (wldNew c) i = [] := by
    intro i hi; rw [e]; rcases two_cases hi with rfl | rfl <;> rfl
  refine ⟨hI, by rw [e]; exact hm, ?_, ?_, ?_⟩
  · intro i hi m hm; rw [hn i hi] at hm; simp at hm
  · intro i hi m hm; rw [he i hi] at hm; simp [end0] at hm
  · intro i hi
    refine ⟨0, 0, ?_⟩
    rw [hn i hi, hn (1 - i) (by omega), he i hi, he (1 - i) (by omega)]
    refine ⟨rfl, rfl, Nat.le_refl _, by simp, by simp, by simp [end0, tx0, pieces], by simp [end0, rx0, joins], rfl, by simp [end0], trivial, Nat.le_refl _⟩
inductive StepEnd (g : Bool) (w : Wld) (e : Evt) (i : Nat) : End → Prop
  | same : StepEnd g w e i (endAt w i)
  | put : e.who.toNat = i → e.kind = 1 → StepEnd g w e i { endAt w i with tx := (txPut w.cfg (endAt w i).tx e.data).1, put := if (txPut w.cfg (endAt w i).tx e.data).2 then (endAt w i).put ++ [e.data] else (endAt w i).put }
  | send : e.who.toNat = i → e.kind = 2 → StepEnd g w e i { endAt w i with tx := (txSend g w.cfg (endAt w i).tx (endAt w i).rx.expect).1 }
  | tick : e.who.toNat = i → e.kind = 3 → StepEnd g w e i { endAt w i with tx := (txTick w.cfg (endAt w i).tx (endAt w i).rx.expect (endAt w i).rx.busy).1 }
  | busy : e.who.toNat = i → e.kind = 4 → StepEnd g w e i { endAt w i with rx := (rxBusy (endAt w i).rx (decide (e.v = 1))).1 }
  | hear (m : Msg) (l : List Msg) (f : Frm) : e.who.toNat = i → e.kind = 7 → netAt w i = m :: l → frmRead m.bytes = some f → (f.kind = 1 ∨ f.kind = 2) →
      StepEnd g w e i { endAt w i with tx := txHear (endAt w i).tx f, rx := (rxHear w.cfg (endAt w i).rx f).1, got := tell (endAt w i).got (rxHear w.cfg (endAt w i).rx f).2.1 }
theorem endAt_sayO (w : Wld) (i j : Nat) (o : Option Frm) : endAt (sayO w i o) j = endAt w j := by
  cases o with
  | none => rfl
  | some f => exact endAt_say1 w i j f
theorem step_other {g : Bool} {w : Wld} (h : WldI w) (e : Evt) {i : Nat} (hi : e.who.toNat ≠ i) : endAt (step g w e) i = endAt w i := by
  have hs : ∀ (v : Wld) (x : End), v.ends.length = 2 → e.who.toNat < 2 → endAt (setEnd v e.who.toNat x) i = endAt v i := fun v x hl hw => by rw [endAt_setEnd hl hw, if_neg (fun e => hi e.symm)]
  unfold step
  split
  · rfl
  · have hw' : e.who.toNat < 2 := by omega
    simp only
    split
    · unfold hear1
      split
      · rfl
      · split
        · rfl
        · unfold hearF
          simp only
          split
          · split
            · rw [endAt_says, hs _ _ (by exact h.le) hw', endAt_setNet]
            · rfl
          · split
            · rw [hs _ _ (by exact h.le) hw', endAt_setNet]
            · split
              · rw [hs _ _ (by exact h.le) hw', endAt_setNet]
              · rfl
    · split
      · rfl
      · split
        · split <;> rfl
        · split
          · rfl
          · split
            · split <;> rfl
            · split
              · unfold byNum
                simp only
                repeat' split
                all_goals first | rfl | (rw [endAt_sayO]; exact hs _ _ (by exact h.le) hw') | (rw [endAt_says]; exact hs _ _ (by exact h.le) hw') | (rw [endAt_say1]) | exact hs _ _ (by exact h.le) hw'
              · unfold forCrd
                simp only
                repeat' split
                all_goals first | rfl | (rw [endAt_sayO]; exact hs _ _ (by exact h.le) hw') | exact hs _ _ (by exact h.le) hw'
theorem step_end {g : Bool} {w : Wld} (h : WldI w) (hm : w.cfg.mode = 1) (e : Evt) {i : Nat} (hi : i < 2) : StepEnd g w e i (endAt (step g w e) i) := by
  by_cases hwi : e.who.toNat = i
  · have hs : ∀ (v : Wld) (x : End), v.ends.length = 2 → endAt (setEnd v e.who.toNat x) i = x := fun v x hl => by rw [endAt_setEnd hl (by omega), if_pos hwi.symm]
    unfold step
    split
    · exact .same
    · simp only
      split
      · rename_i hk
        unfold hear1
        split
        · exact .same
        · rename_i m l hn
          split
          · exact .same
          · rename_i f hf
            unfold hearF
            simp only
            rw [if_pos (by exact hm)]
            split
            · rename_i hk2
              rw [endAt_says, hs _ _ (by exact h.le)]
              subst hwi
              exact .hear m l f rfl hk hn hf hk2
            · exact .same
      · split
        · exact .same
        · split
          · split <;> exact .same
          · split
            · exact .same
            · split
              · split <;> exact .same
              · try rw [if_pos hm]
                unfold byNum
                simp only
                subst hwi
                split
                · rename_i hk
                  split
                  · rw [hs _ _ (by exact h.le)]; exact .put rfl hk
                  · exact .same
                · split
                  · rename_i hk
                    split
                    · rw [endAt_sayO, hs _ _ (by exact h.le)]; exact .send rfl hk
                    · exact .same
                  · split
                    · rename_i hk
                      rw [endAt_sayO, hs _ _ (by exact h.le)]; exact .tick rfl hk
                    · split
                      · rename_i hk
                        rw [endAt_says, hs _ _ (by exact h.le)]; exact .busy rfl hk
                      · split
                        · split
                          · exact .same
                          · rw [endAt_say1]; exact .same
                        · exact .same
  · rw [step_other h e hwi]; exact .same
theorem NumI.counts {w : Wld} (h : NumI w) {i : Nat} (hi : i < 2) : (endAt w i).tx.count ≤ (endAt w (1 - i)).rx.count ∧ (endAt w (1 - i)).rx.count ≤ (endAt w i).tx.count + (endAt w i).tx.flight.length ∧ ((endAt w i).tx.flight.length : Int) ≤ w.cfg.win := by
  obtain ⟨a, b, hd⟩ := h.dir i hi
  have h1 := hd.ca
  have h2 := hd.cb
  have h3 := hd.ab
  have h4 := hd.bf
  exact ⟨by omega, by omega, (h.ok.ends i hi).tx.win⟩
theorem NumI.rxAlive {w : Wld} (h : NumI w) {i : Nat} (hi : i < 2) : (endAt w i).rx.dead = false := by
  obtain ⟨a, b, hd⟩ := h.dir (1 - i) (by omega)
  have := hd.rd
  rwa [show 1 - (1 - i) = i by omega] at this
theorem txSend_dead {g : Bool} {c : Cfg} {t : Tx} {ack : Int} : (txSend g c t ack).1.dead = t.dead := by
  unfold txSend
  split
  · rfl
  · unfold txMove; simp only; split <;> rfl
theorem NumI.stepDead {g : Bool} {w : Wld} (h : NumI w) (e : Evt) {i : Nat} (hi : i < 2) (hb : (endAt (step g w e) i).tx.dead = true) : (endAt w i).tx.dead = true ∨ (e.kind = 3 ∧ (endAt w i).tx.tries = w.cfg.tri) := by
  have hs := step_end (g := g) h.ok h.mode e hi
  generalize endAt (step g w e) i = x at hs hb
  cases hs with
  | same => exact .inl hb
  | put h1 h2 => exact .inl (by rw [← hb]; exact txPut_alike.1.symm)
  | send h1 h2 => exact .inl (by rw [← hb]; exact txSend_dead.symm)
  | tick h1 h2 =>
    simp only at hb
    unfold txTick at hb
    split at hb
    · exact .inl hb
    · split at hb
      · rename_i h3; exact .inr ⟨h2, h3⟩
      · exact .inl hb
  | busy h1 h2 => exact .inl hb
  | hear m l f h1 h2 hn hf hk =>
    simp only at hb
    by_cases hdead : (endAt w i).tx.dead = true
    · exact .inl hdead
    · obtain ⟨a, b, hd⟩ := h.dir i hi
      rw [hn, rdN_cons_some hf] at hd
      obtain ⟨k, _, q2, _⟩ := hd.hearA (h.ok.ends i hi).tx (by simpa using hdead)
      rw [q2] at hb; cases hb
theorem NumI.quiet {w : Wld} (h : NumI w) (hp : ∀ i, i < 2 → (endAt w i).put = []) {i : Nat} (hi : i < 2) : (∀ m ∈ netAt w i, ∀ f, frmRead m.bytes = some f → f.kind ≠ 1) ∧ (endAt w i).got = [] ∧ (endAt w i).rx.count = 0 := by
  obtain ⟨a, b, hd⟩ := h.dir (1 - i) (by omega)
  rw [show 1 - (1 - i) = i by omega, hp _ (by omega)] at hd
  have h0 : (pieces w.cfg.mps ([] : List (List Int))) = [] := rfl
  have hal := hd.al
  have hfq := congrArg List.length hd.fq
  have hbf := hd.bf
  have hcb := hd.cb
  have hjn := hd.jn
  have hway := hd.way
  rw [h0] at hal hfq hjn hway
  simp only [List.drop_nil, List.length_nil, List.length_append] at hal hfq
  have ha : a = 0 := by omega
  have hb0 : b = 0 := by omega
  have hf0 : (endAt w (1 - i)).tx.flight.length = 0 := by omega
  refine ⟨?_, ?_, by rw [hcb, hb0]; rfl⟩
  · rw [ha, hf0] at hway
    clear hd hcb hjn hbf
    have key : ∀ (l : List Msg) (lo : Nat), Way w.cfg.win.toNat [] (0 + 0) lo (rdN l) → ∀ m ∈ l, ∀ f, frmRead m.bytes = some f → f.kind ≠ 1 := by
      intro l
      induction l with
      | nil => intro lo _ m hm; simp at hm
      | cons x l ih =>
        intro lo hw m hm f hf
        cases hx : frmRead x.bytes with
        | none =>
          rw [rdN_cons_none hx] at hw
          rcases List.mem_cons.1 hm with rfl | hm
          · rw [hx] at hf; cases hf
          · exact ih lo hw m hm f hf
        | some y =>
          rw [rdN_cons_some hx] at hw
          unfold Way at hw
          split at hw
          · obtain ⟨s, _, hs, _⟩ := hw; omega
          · rename_i hk
            rcases List.mem_cons.1 hm with rfl | hm
            · rw [hx] at hf; injection hf with hf; subst hf; exact hk
            · exact ih lo hw m hm f hf
    exact key _ _ hway
  · rw [List.take_nil] at hjn
    have : joins [] = some (join0, []) := rfl
    rw [this] at hjn
    injection hjn with hjn
    injection hjn with _ hjn
    exact hjn.symm
theorem step_put_same {g : Bool} {w : Wld} (h : NumI w) (e : Evt) (hk : e.kind ≠ 1) {i : Nat} (hi : i < 2) : (endAt (step g w e) i).put = (endAt w i).put := by
  have hs := step_end (g := g) h.ok h.mode e hi
  generalize endAt (step g w e) i = x at hs
  cases hs with
  | put h1 h2 => exact absurd h2 hk
  | _ => rfl
theorem Acks.all {hi : Nat} {l : List Frm} : ∀ {lo : Nat}, Acks hi lo l → ∀ f ∈ l, ∃ k : Nat, f.ack = (k : Int) % 8 ∧ lo ≤ k ∧ k ≤ hi := by
  induction l with
  | nil => intro lo _ f hf; cases hf
  | cons x l ih =>
    intro lo h f hf
    obtain ⟨k, h1, h2, h3, h4⟩ := h
    rcases List.mem_cons.1 hf with rfl | hf
    · exact ⟨k, h1, h2, h3⟩
    · obtain ⟨j, g1, g2, g3⟩ := ih h4 f hf
      exact ⟨j, g1, by omega, g3⟩
theorem rdN_mem {l : List Msg} {m : Msg} {f : Frm} (h : m ∈ l) (hf : frmRead m.bytes = some f) : f ∈ rdN l := List.mem_filterMap.2 ⟨m, h, hf⟩
theorem NumI.acked {w : Wld} (h : NumI w) {i : Nat} (hi : i < 2) {m : Msg} (hm : m ∈ netAt w i) : (frmRead m.bytes = none → m.bent = true) ∧ (∀ f, frmRead m.bytes = some f → f.kind ≤ 2 ∧ (0 ≤ f.ack ∧ f.ack ≤ 7) ∧ numFar (endAt w i).tx.acked f.ack ≤ (endAt w i).tx.flight.length) := by
  have hmsg := h.msg i hi m hm
  refine ⟨fun hn => ?_, fun f hf => ?_⟩
  · rcases hmsg with ⟨h1, _⟩ | ⟨_, g, h2, _, _, h5⟩
    · exact h1
    · rw [h5, frmRead_bytes h2] at hn; cases hn
  · obtain ⟨_, m2, m3, _⟩ := hmsg.read hf
    have hb := frmOk_bound m2
    obtain ⟨a, b, hd⟩ := h.dir i hi
    have ht := (h.ok.ends i hi).tx
    obtain ⟨k, k1, k2, k3⟩ := hd.acks.all f (rdN_mem hm hf)
    have hac := hd.acked ht
    have hbf := hd.bf
    have hw := ht.win
    have hcw := ht.cfg.win
    refine ⟨by omega, hb.2.2.1, ?_⟩
    unfold numFar
    rw [if_pos (by rw [isNum_iff.2 ht.acked, isNum_iff.2 hb.2.2.1]; rfl)]
    unfold far
    omega
theorem Way.all {win : Nat} (hwin : win ≤ 4) {P : List Part} {top b : Nat} (ht : top ≤ b + win) {l : List Frm} : ∀ {lo : Nat}, b ≤ lo → Way win P top lo l → ∀ f ∈ l, f.kind = 1 → f.seq = (b : Int) % 8 → P[b]? = some ⟨f.seg, f.len, f.data⟩ ∧ b < top := by
  induction l with
  | nil => intro lo _ _ f hf; cases hf
  | cons x l ih =>
    intro lo hlo h f hf hk hs
    unfold Way at h
    split at h
    · obtain ⟨s, ⟨h1, h2⟩, h3, h4, h5⟩ := h
      rcases List.mem_cons.1 hf with rfl | hf
      · have : s = b := by omega
        subst this
        exact ⟨h2, h3⟩
      · exact ih (by omega) h5 f hf hk hs
    · rename_i hx
      rcases List.mem_cons.1 hf with rfl | hf
      · exact absurd hk hx
      · exact ih hlo h f hf hk hs
theorem NumI.nextIs {w : Wld} (h : NumI w) {i : Nat} (hi : i < 2) {m : Msg} (hm : m ∈ netAt w i) {f : Frm} (hf : frmRead m.bytes = some f) (hk : f.kind = 1) (hs : f.seq = (endAt w i).rx.expect) :
    0 ≤ (endAt w i).rx.count - (endAt w (1 - i)).tx.count ∧ (endAt w i).rx.count - (endAt w (1 - i)).tx.count < (endAt w (1 - i)).tx.flight.length ∧ (endAt w (1 - i)).tx.flight[((endAt w i).rx.count - (endAt w (1 - i)).tx.count).toNat]? = some ⟨f.seg, f.len, f.data⟩ := by
  obtain ⟨a, b, hd⟩ := h.dir (1 - i) (by omega)
  rw [show 1 - (1 - i) = i by omega] at hd
  have hr := (h.ok.ends i hi).rx
  have ht := (h.ok.ends (1 - i) (by omega)).tx
  have hex := hd.expect hr
  have hw := ht.win
  have hcw := ht.cfg.win
  have h1 := hd.ca
  have h2 := hd.cb
  have h3 := hd.ab
  obtain ⟨q1, q2⟩ := Way.all (win := w.cfg.win.toNat) (by omega) (b := b) (by omega) (Nat.le_refl b) hd.way f (rdN_mem hm hf) hk (by rw [hs, hex])
  have e : ((endAt w i).rx.count - (endAt w (1 - i)).tx.count).toNat = b - a := by rw [h1, h2]; omega
  refine ⟨by omega, by omega, ?_⟩
  rw [e]
  have hq : ((pieces w.cfg.mps (endAt w (1 - i)).put).drop a)[b - a]? = some ⟨f.seg, f.len, f.data⟩ := by
    rw [List.getElem?_drop, show a + (b - a) = b by omega]; exact q1
  rw [hd.fq, List.getElem?_append_left (by omega)] at hq
  exact hq
theorem NumI.pre {w : Wld} (h : NumI w) {i : Nat} (hi : i < 2) : (endAt w i).put.take (endAt w (1 - i)).got.length = (endAt w (1 - i)).got := by
  obtain ⟨a, b, hd⟩ := h.dir i hi
  obtain ⟨x, hx⟩ := hd.prefix h.ok.cfg
  rw [hx, List.take_left]
open Go.RowKit
theorem inB_no {n lo hi : Int} : inB n lo hi = false ↔ ¬ (lo ≤ n ∧ n ≤ hi) := by rw [← inB_iff]; simp
structure Rep (α : Type) where
  sz : Nat
  K : Zc → α → List Value → Prop
  len : ∀ {z x cs}, K z x cs → cs.length = sz
  one : ∀ {z x cs}, K z x cs → ∀ u ∈ cs, u.oneCell' = true
  mono : ∀ {z z' : Zc} {x cs}, z ≤ z' → K z x cs → K z' x cs
def Els {α : Type} (d : Rep α) (z : Zc) : List α → List Value → Prop
  | [], cs => cs = []
  | x :: xs, cs => ∃ c r, cs = c ++ r ∧ d.K z x c ∧ Els d z xs r
def Sl {α : Type} (d : Rep α) (z : Zc) (xs : List α) (v : Value) : Prop := ∃ A c cs, v = .slice A xs.length c ∧ xs.length ≤ c ∧ Els d z xs cs ∧ RdAt z A 0 cs
section
variable {α : Type} {d : Rep α} {z z' : Zc} {xs ys : List α} {cs ds : List Value} {x : α} {v : Value}
theorem Els.mono (hz : z ≤ z') (h : Els d z xs cs) : Els d z' xs cs := by
  induction xs generalizing cs with
  | nil => exact h
  | cons x xs ih => obtain ⟨c, r, rfl, h1, h2⟩ := h; exact ⟨c, r, rfl, d.mono hz h1, ih h2⟩
theorem Els.length (h : Els d z xs cs) : cs.length = xs.length * d.sz := by
  induction xs generalizing cs with
  | nil => rw [show cs = [] from h]; simp
  | cons x xs ih =>
    obtain ⟨c, r, rfl, h1, h2⟩ := h
    rw [List.length_append, d.len h1, ih h2, List.length_cons, Nat.succ_mul]; omega
theorem Els.one (h : Els d z xs cs) : ∀ u ∈ cs, u.oneCell' = true := by
  induction xs generalizing cs with
  | nil => rw [show cs = [] from h]; simp
  | cons x xs ih =>
    obtain ⟨c, r, rfl, h1, h2⟩ := h
    intro u hu
    rcases List.mem_append.mp hu with hu | hu
    · exact d.one h1 u hu
    · exact ih h2 u hu
theorem Els.append (h : Els d z xs cs) (k : Els d z ys ds) : Els d z (xs ++ ys) (cs ++ ds) := by
  induction xs generalizing cs with
  | nil => rw [show cs = [] from h]; exact k
  | cons x xs ih => obtain ⟨c, r, rfl, h1, h2⟩ := h; exact ⟨c, r ++ ds, by simp, h1, ih h2⟩
theorem Els.single (h : d.K z x cs) : Els d z [x] cs := ⟨cs, [], by simp, h, rfl⟩
theorem Els.drop (h : Els d z xs cs) (k : Nat) : Els d z (xs.drop k) (cs.drop (k * d.sz)) := by
  induction k generalizing xs cs with
  | zero => simpa using h
  | succ k ih =>
    cases xs with
    | nil => rw [show cs = [] from h]; simp [Els]
    | cons x xs =>
      obtain ⟨c, r, rfl, h1, h2⟩ := h
      have := ih h2
      rw [List.drop_succ_cons, Nat.succ_mul, Nat.add_comm, ← List.drop_drop, ← d.len h1, List.drop_left]
      rw [d.len h1]; exact this
theorem Els.take (h : Els d z xs cs) (k : Nat) : Els d z (xs.take k) (cs.take (k * d.sz)) := by
  induction k generalizing xs cs with
  | zero => simp [Els]
  | succ k ih =>
    cases xs with
    | nil => rw [show cs = [] from h]; simp [Els]
    | cons x xs =>
      obtain ⟨c, r, rfl, h1, h2⟩ := h
      have hl := d.len h1
      rw [List.take_succ_cons]
      refine ⟨c, r.take (k * d.sz), ?_, h1, ih h2⟩
      rw [List.take_append, List.take_of_length_le (by rw [Nat.succ_mul]; omega), hl, show (k + 1) * d.sz - d.sz = k * d.sz by rw [Nat.succ_mul]; omega]
theorem Els.get (h : Els d z xs cs) {k : Nat} (hk : xs[k]? = some x) : ∃ c, d.K z x c ∧ ∀ i u, c[i]? = some u → cs[k * d.sz + i]? = some u := by
  induction xs generalizing cs k with
  | nil => simp at hk
  | cons y xs ih =>
    obtain ⟨c, r, rfl, h1, h2⟩ := h
    have hl := d.len h1
    cases k with
    | zero =>
      simp only [List.getElem?_cons_zero, Option.some.injEq] at hk
      subst hk
      refine ⟨c, h1, fun i u hu => ?_⟩
      rw [Nat.zero_mul, Nat.zero_add, List.getElem?_append_left (List.getElem?_eq_some_iff.mp hu).1]; exact hu
    | succ k =>
      obtain ⟨c', k1, k2⟩ := ih h2 (k := k) (by simpa using hk)
      refine ⟨c', k1, fun i u hu => ?_⟩
      rw [Nat.succ_mul, List.getElem?_append_right (by omega), show k * d.sz + d.sz + i - c.length = k * d.sz + i by omega]
      exact k2 i u hu
theorem Els.split (h : Els d z (xs ++ ys) cs) : ∃ c1 c2, cs = c1 ++ c2 ∧ Els d z xs c1 ∧ Els d z ys c2 := by
  induction xs generalizing cs with
  | nil => exact ⟨[], cs, rfl, rfl, h⟩
  | cons x xs ih =>
    obtain ⟨c, r, rfl, h1, h2⟩ := h
    obtain ⟨c1, c2, rfl, h3, h4⟩ := ih h2
    exact ⟨c ++ c1, c2, by simp, ⟨c, c1, rfl, h1, h3⟩, h4⟩
theorem Sl.mono (hz : z ≤ z') (h : Sl d z xs v) : Sl d z' xs v := by
  obtain ⟨A, c, cs, rfl, hc, he, hr⟩ := h
  exact ⟨A, c, cs, rfl, hc, he.mono hz, hr.mono hz⟩
theorem Sl.nil (z : Zc) (A : Option Addr) (c : Nat) : Sl d z [] (.slice A 0 c) := ⟨A, c, [], rfl, Nat.zero_le _, rfl, RdAt.nil _ _ _⟩
theorem Sl.one (h : Sl d z xs v) : v.oneCell' = true := by obtain ⟨A, c, cs, rfl, _⟩ := h; rfl
theorem RdAt.isAt {A : Option Addr} {o : Nat} {vs : List Value} (h : RdAt z A o vs) (hn : 0 < vs.length) : IsAt A := by
  obtain ⟨b, o', e, _⟩ := h (by intro e; rw [e] at hn; simp at hn); exact ⟨b, o', e⟩
theorem Els.at {A : Option Addr} (h : Els d z xs cs) (hr : RdAt z A 0 cs) {k : Nat} (hk : xs[k]? = some x) : ∃ c, d.K z x c ∧ RdAt z A (k * d.sz) c := by
  obtain ⟨c, h1, h2⟩ := h.get hk
  refine ⟨c, h1, ?_⟩
  have := hr.sub (k * d.sz) c h2
  rwa [Nat.zero_add] at this
theorem Els.isAt {A : Option Addr} (h : Els d z xs cs) (hr : RdAt z A 0 cs) (hs : 0 < d.sz) {k : Nat} (hk : k < xs.length) : IsAt A :=
  hr.isAt (by rw [h.length]; exact Nat.mul_pos (by omega) hs)
theorem RdAt.cut {A : Option Addr} {c l sz : Nat} (hr : RdAt z A 0 cs) (hl : cs.length ≤ c * sz) : RdAt z (cutA A c l sz) 0 (cs.drop (l * sz)) := fun hn => by
  unfold cutA
  split
  · rename_i e
    subst e
    exact absurd (List.drop_eq_nil_of_le hl) hn
  · obtain ⟨b, o', e, hb, hc⟩ := hr (by intro e; subst e; simp at hn)
    subst e
    refine ⟨b, o' + l * sz, by simp [add_at], hb, fun i u hu => ?_⟩
    rw [List.getElem?_drop] at hu
    have := hc _ u hu
    rw [show o' + l * sz + 0 + i = o' + 0 + (l * sz + i) by omega]; exact this
theorem RdAt.take {A : Option Addr} {o : Nat} (hr : RdAt z A o cs) (n : Nat) : RdAt z A o (cs.take n) := by
  have := hr.sub 0 (cs.take n) (fun i u hu => by
    have hi := (List.getElem?_eq_some_iff.1 hu).1
    simp at hi
    rw [List.getElem?_take_of_lt (by omega)] at hu
    rwa [Nat.zero_add])
  simpa using this
end
theorem RdAt.cell {z : Zc} {A : Option Addr} {o : Nat} {cs : List Value} (h : RdAt z A o cs) (k : Nat) {u : Value} (hk : cs[k]? = some u) : RdAt z A (o + k) [u] :=
  h.sub k [u] fun i x hx => by
    cases i with
    | zero => simp at hx; subst hx; exact hk
    | succ i => simp at hx
theorem Sl.take {α : Type} {d : Rep α} {z : Zc} {xs : List α} {A : Option Addr} {n c : Nat} (h : Sl d z xs (.slice A n c)) {k c' : Nat} (hk : k ≤ xs.length) (hc' : k ≤ c') : Sl d z (xs.take k) (.slice A k c') := by
  obtain ⟨A', c1, cs, e, hc, he, hr⟩ := h
  injection e with e1 e2 e3
  subst e1; subst e3
  refine ⟨A, c', cs.take (k * d.sz), ?_, ?_, he.take k, hr.take _⟩
  · rw [List.length_take, Nat.min_eq_left hk]
  · rw [List.length_take]; omega
theorem Sl.drop {α : Type} {d : Rep α} {z : Zc} {xs : List α} {A : Option Addr} {n c : Nat} (h : Sl d z xs (.slice A n c)) {k : Nat} : Sl d z (xs.drop k) (.slice (cutA A c k d.sz) (n - k) (c - k)) := by
  obtain ⟨A', c1, cs, e, hc, he, hr⟩ := h
  injection e with e1 e2 e3
  subst e1; subst e3; subst e2
  refine ⟨_, _, cs.drop (k * d.sz), by rw [List.length_drop], by rw [List.length_drop]; omega, he.drop k, hr.cut ?_⟩
  rw [he.length]; exact Nat.mul_le_mul_right _ hc
def bRep : Rep Int where
  sz := 1
  K := fun _ x cs => cs = [.int .u8 x] ∧ 0 ≤ x ∧ x ≤ 255
  len := by rintro z x cs ⟨rfl, _⟩; rfl
  one := by rintro z x cs ⟨rfl, _⟩ u hu; rw [List.mem_singleton.mp hu]; rfl
  mono := fun _ h => h
abbrev bc (l : List Int) : List Value := l.map (Value.int .u8)
theorem Els.bytes {z : Zc} {l : List Int} {cs : List Value} (h : Els bRep z l cs) : cs = bc l ∧ Bys l := by
  induction l generalizing cs with
  | nil => rw [show cs = [] from h]; exact ⟨rfl, fun x hx => by cases hx⟩
  | cons x l ih =>
    obtain ⟨c, r, rfl, ⟨rfl, hx⟩, h2⟩ := h
    obtain ⟨rfl, k⟩ := ih h2
    exact ⟨rfl, fun y hy => by rcases List.mem_cons.mp hy with rfl | hy; exact hx; exact k y hy⟩
theorem Els.of_bytes {z : Zc} {l : List Int} (h : Bys l) : Els bRep z l (bc l) := by
  induction l with
  | nil => rfl
  | cons x l ih => exact ⟨[.int .u8 x], _, rfl, ⟨rfl, h x List.mem_cons_self⟩, ih (fun y hy => h y (List.mem_cons_of_mem _ hy))⟩
abbrev By (z : Zc) (l : List Int) (v : Value) : Prop := Sl bRep z l v
theorem By.form {z : Zc} {l : List Int} {v : Value} (h : By z l v) : ∃ A c, v = .slice A l.length c ∧ l.length ≤ c ∧ Bys l ∧ RdAt z A 0 (bc l) := by
  obtain ⟨A, c, cs, rfl, hc, he, hr⟩ := h
  obtain ⟨rfl, hb⟩ := he.bytes
  exact ⟨A, c, rfl, hc, hb, hr⟩
theorem By.mk {z : Zc} {l : List Int} {A : Option Addr} {c : Nat} (hc : l.length ≤ c) (hb : Bys l) (hr : RdAt z A 0 (bc l)) : By z l (.slice A l.length c) := ⟨A, c, _, rfl, hc, Els.of_bytes hb, hr⟩
theorem By.bys {z : Zc} {l : List Int} {v : Value} (h : By z l v) : Bys l := by obtain ⟨_, _, _, _, h, _⟩ := h.form; exact h
def Rep.slice {α : Type} (d : Rep α) : Rep (List α) where
  sz := 1
  K := fun z xs cs => ∃ v, cs = [v] ∧ Sl d z xs v
  len := by rintro z x cs ⟨v, rfl, _⟩; rfl
  one := by rintro z x cs ⟨v, rfl, h⟩ u hu; rw [List.mem_singleton.mp hu]; exact h.one
  mono := by rintro z z' x cs hz ⟨v, rfl, h⟩; exact ⟨v, rfl, h.mono hz⟩
abbrev sduRep : Rep (List Int) := bRep.slice
def pRep : Rep Part where
  sz := 3
  K := fun z p cs => ∃ v, cs = [.int .i64 p.seg, .int .i64 p.len, v] ∧ By z p.data v
  len := by rintro z x cs ⟨v, rfl, _⟩; rfl
  one := by rintro z x cs ⟨v, rfl, h⟩ u hu; simp at hu; rcases hu with rfl | rfl | rfl; rfl; rfl; exact h.one
  mono := by rintro z z' x cs hz ⟨v, rfl, h⟩; exact ⟨v, rfl, Sl.mono hz h⟩
def mRep : Rep Msg where
  sz := 2
  K := fun z m cs => ∃ v, cs = [.bool m.bent, v] ∧ By z m.bytes v
  len := by rintro z x cs ⟨v, rfl, _⟩; rfl
  one := by rintro z x cs ⟨v, rfl, h⟩ u hu; simp at hu; rcases hu with rfl | rfl; rfl; exact h.one
  mono := by rintro z z' x cs hz ⟨v, rfl, h⟩; exact ⟨v, rfl, Sl.mono hz h⟩
def fRep : Rep Frm where
  sz := 9
  K := fun z f cs => ∃ v, cs = [.int .i64 f.kind, .int .i64 f.seq, .int .i64 f.ack, .bool f.poll, .bool f.fin, .int .i64 f.say, .int .i64 f.seg, .int .i64 f.len, v] ∧ By z f.data v
  len := by rintro z x cs ⟨v, rfl, _⟩; rfl
  one := by rintro z x cs ⟨v, rfl, h⟩ u hu; simp at hu; rcases hu with rfl | rfl | rfl | rfl | rfl | rfl | rfl | rfl | rfl <;> first | rfl | exact h.one
  mono := by rintro z z' x cs hz ⟨v, rfl, h⟩; exact ⟨v, rfl, Sl.mono hz h⟩
abbrev vCfg (c : Cfg) : Value := .agg #[.int .i64 c.mode, .int .i64 c.win, .int .i64 c.mps, .int .i64 c.mtu, .int .i64 c.tri]
abbrev vPart (p : Part) (v : Value) : Value := .agg #[.int .i64 p.seg, .int .i64 p.len, v]
abbrev vFrm (f : Frm) (v : Value) : Value := .agg #[.int .i64 f.kind, .int .i64 f.seq, .int .i64 f.ack, .bool f.poll, .bool f.fin, .int .i64 f.say, .int .i64 f.seg, .int .i64 f.len, v]
abbrev vJoin (j : Join) (v : Value) : Value := .agg #[.int .i64 j.len, v]
abbrev vCRx (r : CRx) (v : Value) : Value := .agg #[.int .i64 r.out, .int .i64 r.join.len, v, .bool r.dead]
abbrev vCTx (t : CTx) (v : Value) : Value := .agg #[.int .i64 t.hav, v, .int .i64 t.granted, .int .i64 t.sent, .bool t.dead]
abbrev vRx (r : Rx) (v : Value) : Value := .agg #[.int .i64 r.expect, .int .i64 r.count, .int .i64 r.join.len, v, .bool r.again, .bool r.busy, .bool r.dead]
abbrev vTx (t : Tx) (v u : Value) : Value := .agg #[.int .i64 t.next, .int .i64 t.acked, v, .int .i64 t.sent, u, .bool t.asks, .int .i64 t.tries, .bool t.held, .int .i64 t.count, .bool t.dead]
section
variable {P : Program} {s : St} {K : St → Prop}
theorem appM_emptyO (k : Nat) {t e sz : Nat} {x y : Operand} {d : Option Nat} (ht : AppTy P t e sz) (hk : look k s.L = none) (hx : (∃ A0, ev s.t x = .c (.v (.slice A0 0 0))) ∨ ∃ j o, ev s.t x = .c (.s j o 0 0))
    {A : Option Addr} {m c : Nat} {news : List Value} (hy : ev s.t y = .c (.v (.slice A m c))) (hr : RdAt s.z A 0 news) (hl : news.length = m * sz) (h1 : ∀ u ∈ news, u.oneCell' = true) (hb : m ≤ 1000000000) (hm : 0 < m)
    (hK : ∀ A c, m ≤ c → K ⟨stO s.t d (.c (.v (.slice A m c))), (k, .own (rowA e sz (.slice A m c) m news)) :: s.L, s.z, s.n⟩) : appM P t x y d s K := fun o ho hd C ρ a w Q h => by
  subst hd
  obtain ⟨A0, hxv⟩ : ∃ A0, a.eval x = .slice A0 0 0 := by
    have hxd := ev_den h.fr x
    rcases hx with ⟨A0, hx⟩ | ⟨j, o', hx⟩
    · rw [hx] at hxd; exact ⟨A0, hxd⟩
    · rw [hx] at hxd; obtain ⟨b, _, hb2⟩ := hxd; exact ⟨_, hb2⟩
  have hyv : a.eval y = .slice A m c := by have := ev_den h.fr y; rw [hy] at this; exact this
  have hr' := hr.rd h.mem
  obtain ⟨i, z0, i1, i2, i3, i4, i5⟩ := ht.inf
  have hne : news ≠ [] := by
    intro e'; subst e'; simp only [List.length_nil] at hl
    rcases Nat.mul_eq_zero.1 hl.symm with h' | h'
    · omega
    · have := ht.pos; omega
  obtain ⟨b, ob, rfl, hc⟩ := hr' hne
  obtain ⟨F, f1, f2⟩ := h.mem
  have hrun : ∃ v' w', (Builtin.append_ #[t, t] o.type #[a.eval x, a.eval y]).run P w = .ok v' w' ∧ Row w' e sz v' m news ∧ w.grownBy w' none ∧ ∀ g, v'.ownBlock = some g → w.heap.size ≤ g := by
    rw [hxv, hyv]
    cases A0 with
    | none =>
      obtain ⟨v', w', k1, k2, k3, _, k5⟩ := run_append_own_at (P := P) w w.heap.size t o.type e i z0 sz i.bytes ht.und i1 i2 i3 rfl i5 ht.pos (.slice none 0 0) 0 [] (World.ownsRow_nil w _ e sz) ⟨b, ob, none⟩ m c news hl (fun j u hu => by rw [add_at]; exact hc j u hu) h1 (by simp only [maxLen]; omega) (by have := Nat.mul_le_mul hb i4; rw [Nat.zero_add]; omega) (Nat.le_refl _)
      have k2' := Row.of_own k2
      rw [List.nil_append, Nat.zero_add] at k2'
      refine ⟨v', w', k1, k2', k3, fun g hg => ?_⟩
      rcases k5 with e' | e'
      · rw [e'] at hg; cases hg
      · rw [e'] at hg; injection hg with hg; omega
    | some a0 =>
      obtain ⟨v', w', k1, k2, k3⟩ := run_append_arg_grows (P := P) w t o.type e i z0 sz i.bytes ht.und i1 i2 i3 rfl i5 ht.pos a0 0 0 [] (by simp) (fun j u hu => by simp at hu) ⟨b, ob, none⟩ m c news hl (fun j u hu => by rw [add_at]; exact hc j u hu) (by omega) (by simp only [maxLen]; omega) (by have := Nat.mul_le_mul hb i4; rw [Nat.zero_add]; omega)
      have k2' := Row.of_own k2
      rw [List.nil_append, Nat.zero_add] at k2'
      refine ⟨v', w', k1, k2', k3, fun g hg => ?_⟩
      rcases k2.2 with ⟨e', _⟩ | ⟨g', cap, cur, e', hg', _⟩
      · rw [e'] at hg; cases hg
      · rw [e'] at hg; simp [Value.ownBlock] at hg; omega
  obtain ⟨v', w', hrun, r1, r2, r3⟩ := hrun
  have hW : WOk ⟨w, fun _ => False, s.z⟩ s.z (fun b => v'.ownBlock = some b) w' := by
    refine ⟨r2.os, r2.tape, r2.output, r2.size, Nat.le_trans f2.zsize r2.size, fun b hb => ?_, fun b hb hz => ?_, fun b hb hf => ?_, fun b hb => ?_, fun b hb => .inl hb, Zc.rfl' _⟩
    · exact (r2.block b (Nat.lt_of_lt_of_le hb.2 f2.zsize) (fun e => by cases e)).trans (f2.frz b hb)
    · have := r3 b hb; have := Nat.lt_of_lt_of_le hz.2 f2.zsize; omega
    · exact r2.block b hb (fun e => by cases e)
    · exact .inr (r3 b hb)
  obtain ⟨hS, hP⟩ := own_after (d := o.dst) (k := k) (sv := .c (.v v')) (v := v') (A := emp) (A' := rowA e sz v' m news) (L := s.L) (F1 := fun _ => False) (F2 := F) h f1 f2 (fun _ h => h) f1 (fun _ h => h.elim) (fun b => by simp)
    (fun _ _ _ h => h) (fun e cs => by rw [hk]; simp) ⟨r1, fun _ => Iff.rfl⟩ hW rfl
  obtain ⟨A', c', e1, e2, _⟩ := r1.rd
  subst e1
  exact wp_value (run_app ho hrun) ⟨_, ρ, hK A' c' e2, hS, hP⟩
theorem appM_zero {t e sz : Nat} {x y : Operand} {d : Option Nat} (ht : AppTy P t e sz) (hx : (∃ A0 n0 c0, n0 ≤ c0 ∧ ev s.t x = .c (.v (.slice A0 n0 c0))) ∨ ∃ j o, ev s.t x = .c (.s j o 0 0))
    {A : Option Addr} {c : Nat} (hy : ev s.t y = .c (.v (.slice A 0 c))) (hK : K ⟨stO s.t d (ev s.t x), s.L, s.z, s.n⟩) : appM P t x y d s K := fun o ho hd C ρ a w Q h => by
  subst hd
  obtain ⟨i, z0, i1, i2, i3, i4, i5⟩ := ht.inf
  have hyv : a.eval y = .slice A 0 c := by have := ev_den h.fr y; rw [hy] at this; exact this
  have hxd := ev_den h.fr x
  obtain ⟨A0, n0, c0, hn, hxv⟩ : ∃ A0 n0 c0, n0 ≤ c0 ∧ a.eval x = .slice A0 n0 c0 := by
    rcases hx with ⟨A0, n0, c0, hn, hx⟩ | ⟨j, o', hx⟩
    · rw [hx] at hxd; exact ⟨A0, n0, c0, hn, hxd⟩
    · rw [hx] at hxd; obtain ⟨b, _, hb2⟩ := hxd; exact ⟨_, _, _, Nat.le_refl _, hb2⟩
  refine wp_value (run_app ho (by rw [hxv, hyv]; exact run_append_zero t _ e i ht.und i1 w A0 A n0 c0 c hn)) ⟨_, ρ, hK, h.put o.dst ?_, Stp.same⟩
  rw [← hxv]
  exact hxd
end
/-! Functions that own, entered. -/
theorem spec_enter0 {P : Program} {f : FuncId} {fn : Func} {ic : IC} {fr : List FR} {pl : List FuncId} {args : List Value} {m : Nat} {z : Zc} {R : Value → Zc → Asrt → Prop}
    (hf : P.funcs[f]? = some fn) (hc : fn.body.bind (trC P pl) = some ic) (hr : fres P fn.results.toList = some fr) (hn : fn.ntmps = m)
    (hv : vcI P ic ⟨args.map ofV ++ List.replicate (m - args.length) unS, [], z, 0⟩ (postK fr R)) : Spec P f args z emp R :=
  spec_enter hf hc hr hn fun C ρ a w hs => ⟨_, ρ, hv, hs.df, hs.fr, hs.nm, hs.mem.drop⟩
theorem spec_enter1 {P : Program} {f : FuncId} {fn : Func} {ic : IC} {fr : List FR} {pl : List FuncId} {args : List Value} {m : Nat} {z : Zc} {A : Asrt} {R : Value → Zc → Asrt → Prop}
    (hf : P.funcs[f]? = some fn) (hc : fn.body.bind (trC P pl) = some ic) (hr : fres P fn.results.toList = some fr) (hn : fn.ntmps = m)
    (hv : vcI P ic ⟨args.map ofV ++ List.replicate (m - args.length) unS, [(1000, .own A)], z, 0⟩ (postK fr R)) : Spec P f args z A R :=
  spec_enter hf hc hr hn fun C ρ a w hs => ⟨_, ρ, hv, hs⟩
theorem spec_enterL {P : Program} {f : FuncId} {fn : Func} {ic : IC} {fr : List FR} {pl : List FuncId} {args : List Value} {m : Nat} {z : Zc} {As : List Asrt} {R : Value → Zc → Asrt → Prop} (ks : List Nat)
    (hf : P.funcs[f]? = some fn) (hc : fn.body.bind (trC P pl) = some ic) (hr : fres P fn.results.toList = some fr) (hn : fn.ntmps = m) (hl : ks.length = As.length)
    (hv : vcI P ic ⟨args.map ofV ++ List.replicate (m - args.length) unS, zipL ks As [], z, 0⟩ (postK fr R)) : Spec P f args z (starL As) R :=
  spec_enter hf hc hr hn fun C ρ a w hs => ⟨_, ρ, hv, (Tf.open' (s := ⟨args.map ofV ++ List.replicate (m - args.length) unS, [(1000, .own (starL As))], z, 0⟩) 1000 ks rfl hl (by simp [del, look])).sat hs⟩
theorem Spec.frz {P : Program} {f : FuncId} {args : List Value} {z : Zc} {e sz : Nat} {A0 : Asrt} {R : Value → Zc → Asrt → Prop} {R' : Value → Zc → Prop} (h : Spec P f args z A0 R)
    (hR : ∀ v z' A', z ≤ z' → R v z' A' → ∃ u n cs, A' = rowA e sz u n cs ∧ ∀ A c z'', u = .slice A n c → n ≤ c → z' ≤ z'' → RdAt z'' A 0 cs → R' v z'') : Spec P f args z A0 fun v z' A' => A' = emp ∧ R' v z' := fun w F hw hA => by
  refine (h w F hw hA).mono ?_
  rintro e' w' ⟨v, z', A', F', rfl, h2, h3, h4⟩
  obtain ⟨u, n, cs, rfl, hk⟩ := hR v z' A' h4.zle h2
  obtain ⟨A, c, z'', k1, k2, k3, k4, ⟨F'', k5, k6⟩⟩ := Mem.freezeRow (C := ⟨w, F, z⟩) (ρ := []) (z := z') (L := [(0, .own (rowA e sz u n cs))]) (w := w') (k := 0) ⟨F', ⟨F', fun _ => False, h3, fun _ h => h, fun _ _ h => h, fun b => by simp⟩, h4⟩ rfl
  exact ⟨v, z'', emp, fun _ => False, rfl, ⟨rfl, hk A c z'' k1 k2 k3 k4⟩, fun _ h => h, k6.less fun _ h => h.elim⟩
end Go.Proofs.YtnkhjnieidlknaaGreat
