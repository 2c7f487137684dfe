/- Two ends that use numbers: what is on its way, what has come, what has been let go of. Plain lists and numbers. · Two ends that use numbers: what a step turns; counts, ends, rest. Plain lists and numbers. · Two ends that use credits, on a link that keeps all: each piece and each credit is somewhere. Plain lists and numbers. · Two ends that use credits: what has come; nobody is at its end. Plain lists and numbers. · What values say: lists of things in memory that stays. · The engine, last part: append onto nothing, that gives a row of one's own. -/
import Derived.Test.YtnkhjnieidlknaaGreatD5
import Derived.Test.YtnkhjnieidlknaaGreatD4
namespace Go.Proofs.YtnkhjnieidlknaaGreat
set_option linter.unusedVariables false
set_option linter.unusedSimpArgs false
def rdN (l : List Msg) : List Frm := l.filterMap fun m => frmRead m.bytes
def isP (P : List Part) (f : Frm) (s : Nat) : Prop := f.seq = (s : Int) % 8 ∧ P[s]? = some ⟨f.seg, f.len, f.data⟩
def Way (win : Nat) (P : List Part) (top : Nat) : Nat → List Frm → Prop
  | _, [] => True
  | lo, f :: l => if f.kind = 1 then ∃ s, isP P f s ∧ s < top ∧ lo ≤ s + win ∧ Way win P top (max lo (s + 1)) l else Way win P top lo l
def Acks (hi : Nat) : Nat → List Frm → Prop
  | lo, [] => lo ≤ hi
  | lo, f :: l => ∃ k : Nat, f.ack = (k : Int) % 8 ∧ lo ≤ k ∧ k ≤ hi ∧ Acks hi k l
theorem Way.mono {win : Nat} {P : List Part} {top : Nat} {l : List Frm} : ∀ {lo lo' : Nat}, Way win P top lo l → lo' ≤ lo → Way win P top lo' l := by
  induction l with
  | nil => intro lo lo' _ _; trivial
  | cons f l ih =>
    intro lo lo' h hl
    unfold Way at h ⊢
    split
    · rename_i hk
      rw [if_pos hk] at h
      obtain ⟨s, h1, h2, h3, h4⟩ := h
      exact ⟨s, h1, h2, by omega, ih h4 (by omega)⟩
    · rename_i hk
      rw [if_neg hk] at h
      exact ih h hl
theorem Way.grow {win : Nat} {P Q : List Part} {top top' : Nat} {l : List Frm} (hP : ∀ (s : Nat) (p : Part), P[s]? = some p → Q[s]? = some p) (ht : top ≤ top') : ∀ {lo : Nat}, Way win P top lo l → Way win Q top' lo l := by
  induction l with
  | nil => intro lo _; trivial
  | cons f l ih =>
    intro lo h
    unfold Way at h ⊢
    split
    · rename_i hk
      rw [if_pos hk] at h
      obtain ⟨s, h1, h2, h3, h4⟩ := h
      exact ⟨s, ⟨h1.1, hP _ _ h1.2⟩, by omega, h3, ih h4⟩
    · rename_i hk
      rw [if_neg hk] at h
      exact ih h
theorem Way.tail {win : Nat} {P : List Part} {top lo : Nat} {f : Frm} {l : List Frm} (h : Way win P top lo (f :: l)) : Way win P top lo l := by
  unfold Way at h
  split at h
  · obtain ⟨s, h1, h2, h3, h4⟩ := h
    exact h4.mono (by omega)
  · exact h
theorem Way.snoc {win : Nat} {P : List Part} {top : Nat} {f : Frm} {s : Nat} (hf : isP P f s) (hs : s < top) (hw : top ≤ s + win) {l : List Frm} : ∀ {lo : Nat}, Way win P top lo l → lo ≤ top → Way win P top lo (l ++ [f]) := by
  induction l with
  | nil =>
    intro lo _ hl
    show Way win P top lo (f :: [])
    unfold Way
    split
    · exact ⟨s, hf, hs, by omega, trivial⟩
    · trivial
  | cons g l ih =>
    intro lo h hl
    rw [List.cons_append]
    unfold Way at h ⊢
    split
    · rename_i hk
      rw [if_pos hk] at h
      obtain ⟨s', h1, h2, h3, h4⟩ := h
      exact ⟨s', h1, h2, h3, ih h4 (by omega)⟩
    · rename_i hk
      rw [if_neg hk] at h
      exact ih h hl
theorem Way.snoc_say {win : Nat} {P : List Part} {top : Nat} {f : Frm} (hf : f.kind ≠ 1) {l : List Frm} : ∀ {lo : Nat}, Way win P top lo l → Way win P top lo (l ++ [f]) := by
  induction l with
  | nil =>
    intro lo _
    show Way win P top lo (f :: [])
    unfold Way
    rw [if_neg hf]; trivial
  | cons g l ih =>
    intro lo h
    rw [List.cons_append]
    unfold Way at h ⊢
    split
    · rename_i hk
      rw [if_pos hk] at h
      obtain ⟨s', h1, h2, h3, h4⟩ := h
      exact ⟨s', h1, h2, h3, ih h4⟩
    · rename_i hk
      rw [if_neg hk] at h
      exact ih h
theorem Acks.le {hi : Nat} {l : List Frm} : ∀ {lo : Nat}, Acks hi lo l → lo ≤ hi := by
  cases l with
  | nil => intro lo h; exact h
  | cons f l => intro lo h; obtain ⟨k, _, h2, h3, _⟩ := h; omega
theorem Acks.mono {hi : Nat} {l : List Frm} : ∀ {lo lo' : Nat}, Acks hi lo l → lo' ≤ lo → Acks hi lo' l := by
  cases l with
  | nil => intro lo lo' h hl; exact Nat.le_trans hl h
  | cons f l => intro lo lo' h hl; obtain ⟨k, h1, h2, h3, h4⟩ := h; exact ⟨k, h1, by omega, h3, h4⟩
theorem Acks.tail {hi lo : Nat} {f : Frm} {l : List Frm} (h : Acks hi lo (f :: l)) : Acks hi lo l := by
  obtain ⟨k, h1, h2, h3, h4⟩ := h; exact h4.mono h2
theorem Acks.grow {hi hi' : Nat} (hh : hi ≤ hi') {l : List Frm} : ∀ {lo : Nat}, Acks hi lo l → Acks hi' lo l := by
  induction l with
  | nil => intro lo h; exact Nat.le_trans h hh
  | cons f l ih => intro lo h; obtain ⟨k, h1, h2, h3, h4⟩ := h; exact ⟨k, h1, h2, by omega, ih h4⟩
theorem Acks.snoc {hi : Nat} {f : Frm} (hf : f.ack = (hi : Int) % 8) {l : List Frm} : ∀ {lo : Nat}, Acks hi lo l → Acks hi lo (l ++ [f]) := by
  induction l with
  | nil => intro lo h; exact ⟨hi, hf, h, Nat.le_refl _, Nat.le_refl _⟩
  | cons g l ih => intro lo h; obtain ⟨k, h1, h2, h3, h4⟩ := h; exact ⟨k, h1, h2, h3, ih h4⟩
structure Dir (c : Cfg) (put : List (List Int)) (t : Tx) (r : Rx) (got : List (List Int)) (D A : List Frm) (a b : Nat) : Prop where
  ca : t.count = a
  cb : r.count = b
  ab : a ≤ b
  bf : b ≤ a + t.flight.length
  al : a ≤ (pieces c.mps put).length
  fq : (pieces c.mps put).drop a = t.flight ++ t.queue
  jn : joins ((pieces c.mps put).take b) = some (r.join, got)
  rd : r.dead = false
  mtu : ∀ m ∈ put, (m.length : Int) ≤ c.mtu
  way : Way c.win.toNat (pieces c.mps put) (a + t.flight.length) b D
  acks : Acks b a A
section
variable {c : Cfg} {put : List (List Int)} {t t' : Tx} {r r' : Rx} {got : List (List Int)} {D A : List Frm} {a b : Nat} {f : Frm}
theorem Dir.top (h : Dir c put t r got D A a b) : a + t.flight.length ≤ (pieces c.mps put).length := by
  have h1 := congrArg List.length h.fq
  have h2 := h.al
  simp only [List.length_drop, List.length_append] at h1
  omega
theorem Dir.loseD (h : Dir c put t r got (f :: D) A a b) : Dir c put t r got D A a b := { h with way := h.way.tail }
theorem Dir.loseA (h : Dir c put t r got D (f :: A) a b) : Dir c put t r got D A a b := { h with acks := h.acks.tail }
theorem Dir.noD (h : Dir c put t r got D A a b) : Dir c put t r got [] A a b := { h with way := trivial }
theorem Dir.noA (h : Dir c put t r got D A a b) : Dir c put t r got D [] a b := { h with acks := h.ab }
theorem Dir.sayD (h : Dir c put t r got D A a b) (hf : f.kind ≠ 1) : Dir c put t r got (D ++ [f]) A a b := { h with way := h.way.snoc_say hf }
theorem Dir.expect (h : Dir c put t r got D A a b) (hr : RxI r) : r.expect = (b : Int) % 8 := by
  have := hr.num
  rw [h.cb] at this
  unfold numOf at this
  rw [if_neg (by omega)] at this
  exact this.symm
theorem Dir.acked (h : Dir c put t r got D A a b) (ht : TxI c t) : t.acked = (a : Int) % 8 := by
  have := ht.num
  rw [h.ca] at this
  unfold numOf at this
  rw [if_neg (by omega)] at this
  exact this.symm
theorem Dir.sayA (h : Dir c put t r got D A a b) (hr : RxI r) (hf : f.ack = r.expect) : Dir c put t r got D (A ++ [f]) a b := { h with acks := h.acks.snoc (by rw [hf]; exact h.expect hr) }
theorem Dir.rxAlike (h : Dir c put t r got D A a b) (h1 : r'.count = r.count) (h2 : r'.join = r.join) (h3 : r'.dead = r.dead) : Dir c put t r' got D A a b :=
  ⟨h.ca, by rw [h1]; exact h.cb, h.ab, h.bf, h.al, h.fq, by rw [h2]; exact h.jn, by rw [h3]; exact h.rd, h.mtu, h.way, h.acks⟩
theorem Dir.puts (h : Dir c put t r got D A a b) (m : List Int) (hm : (m.length : Int) ≤ c.mtu) : Dir c (put ++ [m]) { t with queue := t.queue ++ segCut m c.mps } r got D A a b := by
  have ht := h.top
  have hb := h.bf
  have hp := pieces_snoc c.mps put m
  refine ⟨h.ca, h.cb, h.ab, h.bf, ?_, ?_, ?_, h.rd, ?_, ?_, h.acks⟩
  · rw [hp, List.length_append]; omega
  · rw [hp, List.drop_append_of_le_length h.al, h.fq, List.append_assoc]
  · rw [hp, List.take_append_of_le_length (by omega)]; exact h.jn
  · intro x hx
    rcases List.mem_append.mp hx with hx | hx
    · exact h.mtu x hx
    · rw [List.mem_singleton.mp hx]; exact hm
  · refine h.way.grow (fun s p hs => ?_) (Nat.le_refl _)
    rw [hp, List.getElem?_append_left (List.getElem?_eq_some_iff.mp hs).1]; exact hs
theorem txSend_some {g : Bool} {ack : Int} (h : (txSend g c t ack).2 = some f) : txStops g c t = false ∧ (txSend g c t ack).1 = { txMove t with sent := t.sent + 1 } ∧ f = dataFrm ((txMove t).flight.getD t.sent.toNat part0) ((t.acked + t.sent) % 8) ack := by
  unfold txSend at h ⊢
  split at h
  · cases h
  · rename_i hs
    rw [if_neg hs]
    injection h with h
    exact ⟨by simpa using hs, rfl, h.symm⟩
theorem txMove_all (hq : t.sent = t.flight.length → t.queue ≠ []) : (txMove t).flight ++ (txMove t).queue = t.flight ++ t.queue ∧ t.flight.length ≤ (txMove t).flight.length ∧ (txMove t).count = t.count := by
  unfold txMove
  split
  · rename_i hs
    refine ⟨?_, by simp, rfl⟩
    simp only [List.append_assoc, List.take_append_drop]
  · exact ⟨rfl, Nat.le_refl _, rfl⟩
def MaySend (c : Cfg) (put : List (List Int)) (t : Tx) (f : Frm) : Prop := ∃ s, isP (pieces c.mps put) f s ∧ s < t.count.toNat + t.flight.length ∧ t.count.toNat + t.flight.length ≤ s + c.win.toNat
theorem Dir.sendD (h : Dir c put t r got D A a b) (hf : MaySend c put t f) : Dir c put t r got (D ++ [f]) A a b := by
  obtain ⟨s, h1, h2, h3⟩ := hf
  rw [h.ca, Int.toNat_natCast] at h2 h3
  exact { h with way := h.way.snoc h1 h2 h3 h.bf }
theorem Dir.send {g : Bool} {ack : Int} (h : Dir c put t r got D A a b) (ht : TxI c t) (hl : Low t) (hf : (txSend g c t ack).2 = some f) : Dir c put (txSend g c t ack).1 r got D A a b ∧ MaySend c put (txSend g c t ack).1 f ∧ f.ack = ack ∧ f.kind = 1 ∧ (txSend g c t ack).1.sent = t.sent + 1 ∧ isP (pieces c.mps put) f (a + t.sent.toNat) := by
  obtain ⟨h1, h2, h3⟩ := txSend_some hf
  rw [h2]
  obtain ⟨k1, k2, k3, k4⟩ := txStops_no h1
  obtain ⟨m1, m2, m3, m4⟩ := txMove_ok ht hl k4
  obtain ⟨n1, n2, n3⟩ := txMove_all (fun hs => (k4 hs).2.1)
  have hse := ht.sent
  have hw := m1.win
  have hbf := h.bf
  have hac := h.acked ht
  have hca := h.ca
  have hlt : t.sent.toNat < (txMove t).flight.length := by omega
  have hP : isP (pieces c.mps put) f (a + t.sent.toNat) := by
    refine ⟨?_, ?_⟩
    · rw [h3]; simp only [dataFrm]; rw [hac]; omega
    · have e : (pieces c.mps put)[a + t.sent.toNat]? = ((pieces c.mps put).drop a)[t.sent.toNat]? := by rw [List.getElem?_drop]
      rw [e, h.fq, ← n1, List.getElem?_append_left hlt, h3]
      simp only [dataFrm]
      rw [List.getD_eq_getElem?_getD, List.getElem?_eq_getElem hlt]
      rfl
  refine ⟨⟨by rw [← h.ca]; exact n3, h.cb, h.ab, by simp only; omega, h.al, by rw [h.fq, ← n1], h.jn, h.rd, h.mtu, ?_, h.acks⟩, ⟨a + t.sent.toNat, hP, ?_, ?_⟩, by rw [h3]; rfl, by rw [h3]; rfl, rfl, hP⟩
  · exact h.way.grow (fun s p hs => hs) (by simp only; omega)
  · simp only [n3, hca]; omega
  · simp only [n3, hca]; omega
theorem Dir.hearA (h : Dir c put t r got D (f :: A) a b) (ht : TxI c t) (hd : t.dead = false) : ∃ k : Nat, Dir c put (txHear t f) r got D A k b ∧ (txHear t f).dead = false ∧ a ≤ k ∧ f.ack = (k : Int) % 8 ∧ (txHear t f).flight = t.flight.drop (k - a) ∧ (txHear t f).queue = t.queue := by
  obtain ⟨k, h1, h2, h3, h4⟩ := h.acks
  have hac := h.acked ht
  have hbf := h.bf
  have hw := ht.win
  have hc := ht.cfg.win
  have hfar : far t.acked f.ack = (k : Int) - a := by unfold far; rw [hac, h1]; omega
  have hn : ¬ far t.acked f.ack > t.flight.length := by rw [hfar]; omega
  have e : txHear t f = { t with
      flight := t.flight.drop (k - a)
      acked := f.ack
      count := t.count + far t.acked f.ack
      held := if f.kind = 2 then decide (f.say = 2) else t.held
      asks := t.asks && !f.fin
      tries := if (f.fin && t.asks) = true then 0 else t.tries
      sent := if (f.fin && t.asks) = true then 0 else if f.kind = 2 ∧ f.say = 1 ∧ t.asks = false then 0 else max 0 (t.sent - far t.acked f.ack) } := by
    unfold txHear
    rw [if_neg (by simp [hd]), if_neg hn]
    have : (far t.acked f.ack).toNat = k - a := by rw [hfar]; omega
    simp only [this]
  refine ⟨k, ?_, by rw [e]; exact hd, h2, h1, by rw [e], by rw [e]⟩
  rw [e]
  have hfl : (t.flight.drop (k - a)).length = t.flight.length - (k - a) := List.length_drop
  refine ⟨by simp only [hfar, h.ca]; omega, h.cb, h3, by simp only [hfl]; omega, ?_, ?_, h.jn, h.rd, h.mtu, ?_, h4⟩
  · have := h.top; omega
  · have e2 : (pieces c.mps put).drop k = ((pieces c.mps put).drop a).drop (k - a) := by rw [List.drop_drop]; congr 1; omega
    rw [e2, h.fq, List.drop_append_of_le_length (by omega)]
  · simp only [hfl]
    have : k + (t.flight.length - (k - a)) = a + t.flight.length := by omega
    rw [this]; exact h.way
theorem Way.next {win : Nat} (hwin : win ≤ 4) {P : List Part} {top b : Nat} (ht : top ≤ b + win) {l : List Frm} (h : Way win P top b (f :: l)) (hk : f.kind = 1) (hs : f.seq = (b : Int) % 8) : isP P f b ∧ b < top ∧ Way win P top (b + 1) l := by
  unfold Way at h
  rw [if_pos hk] at h
  obtain ⟨s, h1, h2, h3, h4⟩ := h
  have h5 := h1.1
  have : s = b := by omega
  subst this
  exact ⟨h1, h2, h4.mono (by omega)⟩
theorem pieces_mem {c : Cfg} {put : List (List Int)} {s : Nat} {p : Part} (h : (pieces c.mps put)[s]? = some p) : ∃ m ∈ put, p ∈ segCut m c.mps := by
  have := List.mem_of_getElem? h
  unfold pieces at this
  exact List.mem_flatMap.mp this
theorem Dir.joined (h : Dir c put t r got D A a b) (hc : CfgI c) : joins (pieces c.mps put) = some (join0, put) := by
  have h1 := hc.mps; have h2 := hc.mtu
  exact joins_pieces (by omega) (by omega) (fun m hm => by have := h.mtu m hm; omega)
theorem goWait_02 (b : Bool) : 0 ≤ goWait b ∧ goWait b ≤ 2 := by cases b <;> simp [goWait]
theorem tell_one (got : List (List Int)) (m : List Int) (h : got.length < 60) : tell got [m] = got ++ [m] := by simp [tell, h]
theorem Dir.hearD (h : Dir c put t r got (f :: D) A a b) (hc : CfgI c) (ht : TxI c t) (hr : RxI r) (hp : put.length ≤ 60) (hk : f.kind = 1 ∨ f.kind = 2) :
    ∃ b', b ≤ b' ∧ Dir c put t (rxHear c r f).1 (tell got (rxHear c r f).2.1) D A a b' ∧ (∀ x ∈ (rxHear c r f).2.2, ∃ fin say, x = sayFrm (rxHear c r f).1.expect false fin say ∧ 0 ≤ say ∧ say ≤ 2) ∧ (r.busy = true → b' = b) ∧ (b' ≠ b → b' = b + 1 ∧ isP (pieces c.mps put) f b ∧ f.kind = 1) ∧ (f.kind = 1 → r.busy = false → f.seq = r.expect → b' = b + 1) ∧ ((rxHear c r f).1.busy = r.busy) := by
  have hex := h.expect hr
  have hw := ht.win
  have hcw := hc.win
  have hab := h.ab
  unfold rxHear
  rw [if_neg (by simp [h.rd])]
  split
  · rename_i hk2
    split
    · refine ⟨b, Nat.le_refl _, ?_, ?_, fun _ => rfl, fun hn => absurd rfl hn, fun h1 => by omega, rfl⟩
      · exact h.loseD.rxAlike rfl rfl rfl
      · intro x hx; rw [List.mem_singleton.mp hx]; exact ⟨_, _, rfl, goWait_02 _⟩
    · exact ⟨b, Nat.le_refl _, h.loseD, by simp, fun _ => rfl, fun hn => absurd rfl hn, fun h1 => by omega, rfl⟩
  · rename_i hk2
    have hk1 : f.kind = 1 := by omega
    split
    · rename_i hbusy
      refine ⟨b, Nat.le_refl _, h.loseD, ?_, fun _ => rfl, fun hn => absurd rfl hn, fun _ h2 => (by rw [hbusy] at h2; cases h2), rfl⟩
      intro x hx; rw [List.mem_singleton.mp hx]; exact ⟨_, _, rfl, by omega⟩
    · rename_i hbusy
      split
      · rename_i hseq
        rw [hex] at hseq
        obtain ⟨h1, h2, h3⟩ := Way.next (by omega) (by omega) h.way hk1 hseq
        have hj := h.joined hc
        obtain ⟨j1, j2⟩ := joins_next hj h1.2 h.jn
        obtain ⟨m, hm, hpm⟩ := pieces_mem h1.2
        obtain ⟨q1, q2, q3, q4⟩ := segCut_mem hpm
        simp only at q2 q3 j1 j2
        have hmtu := h.mtu m hm
        have hcnt : r.count ≠ 9999 := by
          have := pieces_length c.mps put
          have := h.top
          rw [h.cb]; omega
        have hx : rxTake c r f = ({ r with join := (segPut r.join ⟨f.seg, f.len, f.data⟩).1, expect := numNext r.expect, count := r.count + 1, again := false }, if (segPut r.join ⟨f.seg, f.len, f.data⟩).2.2 = 2 then [(segPut r.join ⟨f.seg, f.len, f.data⟩).2.1] else []) := by
          unfold rxTake
          rw [if_neg (by omega)]
          simp only
          rw [if_neg j1]
        simp only [hx]
        refine ⟨b + 1, by omega, ?_, by simp, fun hb => absurd hb hbusy, fun _ => ⟨rfl, h1, hk1⟩, fun _ _ _ => rfl, trivial⟩
        have hgot : tell got (if (segPut r.join ⟨f.seg, f.len, f.data⟩).2.2 = 2 then [(segPut r.join ⟨f.seg, f.len, f.data⟩).2.1] else []) = if (segPut r.join ⟨f.seg, f.len, f.data⟩).2.2 = 2 then got ++ [(segPut r.join ⟨f.seg, f.len, f.data⟩).2.1] else got := by
          split
          · rename_i h4
            obtain ⟨s, k1, x, k2⟩ := joins_take hj (b + 1)
            rw [j2] at k1
            injection k1 with k1
            rw [if_pos h4] at k1
            rw [← k1] at k2
            simp only at k2
            have := congrArg List.length k2
            simp only [List.length_append, List.length_cons, List.length_nil] at this
            exact tell_one _ _ (by omega)
          · rfl
        rw [hgot]
        exact ⟨h.ca, by simp only [h.cb]; omega, by omega, by omega, h.al, h.fq, j2, h.rd, h.mtu, h3, h.acks.grow (by omega)⟩
      · rename_i hseq
        split
        · refine ⟨b, Nat.le_refl _, h.loseD.rxAlike rfl rfl rfl, ?_, fun _ => rfl, fun hn => absurd rfl hn, fun _ _ h3 => absurd h3 hseq, rfl⟩
          intro x hx; rw [List.mem_singleton.mp hx]; exact ⟨_, _, rfl, by omega⟩
        · exact ⟨b, Nat.le_refl _, h.loseD, by simp, fun _ => rfl, fun hn => absurd rfl hn, fun _ _ h3 => absurd h3 hseq, rfl⟩
end
def MsgI (m : Msg) : Prop := (m.bent = true ∧ frmRead m.bytes = none) ∨ (m.bent = false ∧ ∃ f, frmOk f = true ∧ (f.kind = 1 ∨ f.kind = 2) ∧ Bys f.data ∧ m.bytes = frmBytes f)
structure NumI (w : Wld) : Prop where
  ok : WldI w
  mode : w.cfg.mode = 1
  msg : ∀ i, i < 2 → ∀ m ∈ netAt w i, MsgI m
  bys : ∀ i, i < 2 → ∀ m ∈ (endAt w i).put, Bys m
  dir : ∀ i, i < 2 → ∃ a b, Dir w.cfg (endAt w i).put (endAt w i).tx (endAt w (1 - i)).rx (endAt w (1 - i)).got (rdN (netAt w (1 - i))) (rdN (netAt w i)) a b
theorem rdN_snoc (l : List Msg) {f : Frm} (h : frmOk f = true) : rdN (l ++ [⟨false, frmBytes f⟩]) = rdN l ++ [f] := by
  unfold rdN
  rw [List.filterMap_append]
  simp [frmRead_bytes h]
theorem rdN_cons_some {m : Msg} {l : List Msg} {f : Frm} (h : frmRead m.bytes = some f) : rdN (m :: l) = f :: rdN l := by simp [rdN, h]
theorem rdN_cons_none {m : Msg} {l : List Msg} (h : frmRead m.bytes = none) : rdN (m :: l) = rdN l := by simp [rdN, h]
theorem MsgI.read {m : Msg} (h : MsgI m) {f : Frm} (hf : frmRead m.bytes = some f) : m.bent = false ∧ frmOk f = true ∧ (f.kind = 1 ∨ f.kind = 2) ∧ Bys f.data := by
  rcases h with ⟨h1, h2⟩ | ⟨h1, g, h2, h3, h4, h5⟩
  · rw [h2] at hf; cases hf
  · rw [h5, frmRead_bytes h2] at hf
    injection hf with hf
    subst hf
    exact ⟨h1, h2, h3, h4⟩
theorem sayFrm_ok {ack : Int} {poll fin : Bool} {say : Int} (h1 : 0 ≤ ack ∧ ack ≤ 7) (h2 : (poll && fin) = false) (h3 : 0 ≤ say ∧ say ≤ 2) : frmOk (sayFrm ack poll fin say) = true := by
  simp only [frmOk, sayFrm, isNum_iff.mpr h1, h2, inB_iff.mpr h3]
  simp
theorem two_cases {i : Nat} (h : i < 2) : i = 0 ∨ i = 1 := by omega
theorem NumI.say1 {w : Wld} (h : NumI w) {i : Nat} (hi : i < 2) {f : Frm} (hf : frmOk f = true) (hk : f.kind = 1 ∨ f.kind = 2) (hb : Bys f.data) (ha : f.ack = (endAt w i).rx.expect) (hs : f.kind = 1 → MaySend w.cfg (endAt w i).put (endAt w i).tx f) : NumI (say1 w i f) := by
  have hok := say1_I (who := i) h.ok f
  unfold Go.Proofs.YtnkhjnieidlknaaGreat.say1 at hok ⊢
  split at hok
  · rename_i hl
    rw [if_pos hl]
    have hj : 1 - i < 2 := by omega
    have hij : 1 - (1 - i) = i := by omega
    refine ⟨hok, h.mode, ?_, h.bys, ?_⟩
    · intro j hj' m hm
      rw [netAt_setNet h.ok.ln hj] at hm
      split at hm
      · rename_i e
        subst e
        rcases List.mem_append.mp hm with hm | hm
        · exact h.msg _ hj m hm
        · rw [List.mem_singleton.mp hm]; exact .inr ⟨rfl, f, hf, hk, hb, rfl⟩
      · exact h.msg j hj' m hm
    · intro j hj'
      obtain ⟨a, b, hd⟩ := h.dir j hj'
      refine ⟨a, b, ?_⟩
      simp only [endAt_setNet, cfg_setNet, netAt_setNet h.ok.ln hj]
      by_cases e : j = i
      · subst e
        rw [if_pos rfl, if_neg (by omega), rdN_snoc _ hf]
        rcases hk with hk | hk
        · exact hd.sendD (hs hk)
        · exact hd.sayD (by omega)
      · have e' : j = 1 - i := by omega
        subst e'
        rw [if_neg (by omega), if_pos rfl, rdN_snoc _ hf]
        refine hd.sayA (h.ok.ends _ (by omega)).rx ?_
        rw [hij, ha]
  · rename_i hl
    rw [if_neg hl]; exact h
theorem endAt_say1 (w : Wld) (i j : Nat) (f : Frm) : endAt (say1 w i f) j = endAt w j := by unfold say1; split <;> rfl
theorem cfg_say1 (w : Wld) (i : Nat) (f : Frm) : (say1 w i f).cfg = w.cfg := by unfold say1; split <;> rfl
theorem endAt_says (i j : Nat) (l : List Frm) : ∀ w : Wld, endAt (says w i l) j = endAt w j := by
  induction l with
  | nil => intro w; rfl
  | cons f l ih => intro w; exact (ih _).trans (endAt_say1 w i j f)
theorem NumI.says {i : Nat} (hi : i < 2) (l : List Frm) : ∀ {w : Wld}, NumI w → (∀ x ∈ l, ∃ fin say, x = sayFrm (endAt w i).rx.expect false fin say ∧ 0 ≤ say ∧ say ≤ 2) → NumI (says w i l) := by
  induction l with
  | nil => intro w h _; exact h
  | cons f l ih =>
    intro w h hl
    obtain ⟨fin, say, rfl, h1, h2⟩ := hl f List.mem_cons_self
    have he := (h.ok.ends i hi).rx.expect
    refine ih (h.say1 hi (sayFrm_ok he rfl ⟨h1, h2⟩) (.inr rfl) (by intro x hx; simp [sayFrm] at hx) rfl (fun hk => by simp [sayFrm] at hk)) ?_
    intro x hx
    rw [endAt_say1]
    exact hl x (List.mem_cons_of_mem _ hx)
theorem NumI.endTo {w : Wld} (h : NumI w) {i : Nat} (hi : i < 2) {e : End} (he : EndI w.cfg e) (hb : ∀ m ∈ e.put, Bys m)
    (h1 : ∀ a b, Dir w.cfg (endAt w i).put (endAt w i).tx (endAt w (1 - i)).rx (endAt w (1 - i)).got (rdN (netAt w (1 - i))) (rdN (netAt w i)) a b → ∃ a b, Dir w.cfg e.put e.tx (endAt w (1 - i)).rx (endAt w (1 - i)).got (rdN (netAt w (1 - i))) (rdN (netAt w i)) a b)
    (h2 : ∀ a b, Dir w.cfg (endAt w (1 - i)).put (endAt w (1 - i)).tx (endAt w i).rx (endAt w i).got (rdN (netAt w i)) (rdN (netAt w (1 - i))) a b → ∃ a b, Dir w.cfg (endAt w (1 - i)).put (endAt w (1 - i)).tx e.rx e.got (rdN (netAt w i)) (rdN (netAt w (1 - i))) a b) : NumI (setEnd w i e) := by
  have hij : 1 - (1 - i) = i := by omega
  refine ⟨h.ok.setEnd hi he, h.mode, h.msg, ?_, ?_⟩
  · intro j hj m hm
    rw [endAt_setEnd h.ok.le hi] at hm
    split at hm
    · exact hb m hm
    · exact h.bys j hj m hm
  · intro j hj
    obtain ⟨a, b, hd⟩ := h.dir j hj
    simp only [netAt_setEnd, cfg_setEnd, endAt_setEnd h.ok.le hi]
    by_cases e' : j = i
    · subst e'
      rw [if_pos rfl, if_neg (by omega)]
      exact h1 a b hd
    · have e' : j = 1 - i := by omega
      subst e'
      rw [if_neg (by omega), if_pos hij]
      rw [hij] at hd ⊢
      exact h2 a b hd
theorem NumI.netTo {w : Wld} (h : NumI w) {i : Nat} (hi : i < 2) {l : List Msg} (hl : NetI l) (hm : ∀ m ∈ l, MsgI m)
    (hr : rdN l = rdN (netAt w i) ∨ (∃ f, rdN (netAt w i) = f :: rdN l) ∨ rdN l = []) : NumI (setNet w i l) := by
  refine ⟨h.ok.setNet hi hl, h.mode, ?_, h.bys, ?_⟩
  · intro j hj m hm'
    rw [netAt_setNet h.ok.ln hi] at hm'
    split at hm'
    · exact hm m hm'
    · exact h.msg j hj m hm'
  · intro j hj
    obtain ⟨a, b, hd⟩ := h.dir j hj
    refine ⟨a, b, ?_⟩
    simp only [endAt_setNet, cfg_setNet, netAt_setNet h.ok.ln hi]
    by_cases e : j = i
    · subst e
      rw [if_pos rfl, if_neg (by omega)]
      rcases hr with hr | ⟨f, hr⟩ | hr
      · rw [hr]; exact hd
      · rw [hr] at hd; exact hd.loseA
      · rw [hr]; exact hd.noA
    · have e' : j = 1 - i := by omega
      subst e'
      have hij : 1 - (1 - i) = i := by omega
      rw [hij] at hd ⊢
      rw [if_pos rfl, if_neg (by omega)]
      rcases hr with hr | ⟨f, hr⟩ | hr
      · rw [hr]; exact hd
      · rw [hr] at hd; exact hd.loseD
      · rw [hr]; exact hd.noD
theorem NumI.drop {w : Wld} (h : NumI w) {i : Nat} (hi : i < 2) {m : Msg} {l : List Msg} (hn : netAt w i = m :: l) : NumI (setNet w i l) := by
  have hnet := h.ok.net i hi
  rw [hn] at hnet
  refine h.netTo hi hnet.tail (fun x hx => h.msg i hi x (by rw [hn]; exact List.mem_cons_of_mem _ hx)) ?_
  rw [hn]
  cases hf : frmRead m.bytes with
  | none => left; rw [rdN_cons_none hf]
  | some f => right; left; exact ⟨f, rdN_cons_some hf⟩
theorem NumI.hear {w : Wld} (h : NumI w) {i : Nat} (hi : i < 2) : NumI (hear1 w i) := by
  unfold hear1
  split
  · exact h
  · rename_i m l hn
    have hdrop := h.drop hi hn
    have hmsg := h.msg i hi m (by rw [hn]; exact List.mem_cons_self)
    split
    · exact hdrop
    · rename_i f hf
      obtain ⟨m1, m2, m3, m4⟩ := hmsg.read hf
      have hx := h.ok.ends i hi
      have hy := h.ok.ends (1 - i) (by omega)
      have hij : 1 - (1 - i) = i := by omega
      have hfb := frmOk_bound m2
      unfold hearF
      simp only
      rw [if_pos (by exact h.mode), if_pos m3]
      simp only [endAt_setNet, cfg_setNet]
      obtain ⟨a, b, hd⟩ := h.dir i hi
      obtain ⟨a', b', hd'⟩ := h.dir (1 - i) (by omega)
      rw [hij] at hd'
      rw [hn, rdN_cons_some hf] at hd hd'
      have h1 := txHear_ok (f := f) hx.tx hx.low (by omega)
      have h2 := rxHear_ok (c := w.cfg) hx.rx m2 m3
      obtain ⟨b2, g1, g2, g3, g4⟩ := hd'.hearD h.ok.cfg hy.tx hx.rx hy.put.1 m3
      have hE : EndI w.cfg { endAt w i with tx := txHear (endAt w i).tx f, rx := (rxHear w.cfg (endAt w i).rx f).1, got := tell (endAt w i).got (rxHear w.cfg (endAt w i).rx f).2.1 } :=
        { hx with tx := h1.1, low := h1.2, rx := h2.1, got := tell_I hx.got h2.2.1 }
      refine NumI.says hi _ ?_ ?_
      · have hnn : netAt (setNet w i l) i = l := by rw [netAt_setNet h.ok.ln hi, if_pos rfl]
        have hno : netAt (setNet w i l) (1 - i) = netAt w (1 - i) := by rw [netAt_setNet h.ok.ln hi, if_neg (by omega)]
        refine hdrop.endTo hi hE (h.bys i hi) ?_ ?_
        · intro a1 b1 _
          simp only [endAt_setNet, cfg_setNet, hnn, hno]
          by_cases hdead : (endAt w i).tx.dead = true
          · refine ⟨a, b, ?_⟩
            have : txHear (endAt w i).tx f = (endAt w i).tx := by unfold txHear; rw [if_pos hdead]
            rw [this]; exact hd.loseA
          · obtain ⟨k, q1, q2⟩ := hd.hearA hx.tx (by simpa using hdead)
            exact ⟨k, b, q1⟩
        · intro a1 b1 _
          simp only [endAt_setNet, cfg_setNet, hnn, hno]
          exact ⟨a', b2, g2⟩
      · intro x hx'
        rw [endAt_setEnd (by exact h.ok.le) hi, if_pos rfl]
        exact g3 x hx'
inductive StepEnd (g : Bool) (w : Wld) (e : Evt) (i : Nat) : End → Prop
  | same : StepEnd g w e i (endAt w i)
  | put : e.who.toNat = i → e.kind = 1 → StepEnd g w e i { endAt w i with tx := (txPut w.cfg (endAt w i).tx e.data).1, put := if (txPut w.cfg (endAt w i).tx e.data).2 then (endAt w i).put ++ [e.data] else (endAt w i).put }
  | send : e.who.toNat = i → e.kind = 2 → StepEnd g w e i { endAt w i with tx := (txSend g w.cfg (endAt w i).tx (endAt w i).rx.expect).1 }
  | tick : e.who.toNat = i → e.kind = 3 → StepEnd g w e i { endAt w i with tx := (txTick w.cfg (endAt w i).tx (endAt w i).rx.expect (endAt w i).rx.busy).1 }
  | busy : e.who.toNat = i → e.kind = 4 → StepEnd g w e i { endAt w i with rx := (rxBusy (endAt w i).rx (decide (e.v = 1))).1 }
  | hear (m : Msg) (l : List Msg) (f : Frm) : e.who.toNat = i → e.kind = 7 → netAt w i = m :: l → frmRead m.bytes = some f → (f.kind = 1 ∨ f.kind = 2) →
      StepEnd g w e i { endAt w i with tx := txHear (endAt w i).tx f, rx := (rxHear w.cfg (endAt w i).rx f).1, got := tell (endAt w i).got (rxHear w.cfg (endAt w i).rx f).2.1 }
theorem endAt_sayO (w : Wld) (i j : Nat) (o : Option Frm) : endAt (sayO w i o) j = endAt w j := by
  cases o with
  | none => rfl
  | some f => exact endAt_say1 w i j f
theorem step_other {g : Bool} {w : Wld} (h : WldI w) (e : Evt) {i : Nat} (hi : e.who.toNat ≠ i) : endAt (step g w e) i = endAt w i := by
  have hs : ∀ (v : Wld) (x : End), v.ends.length = 2 → e.who.toNat < 2 → endAt (setEnd v e.who.toNat x) i = endAt v i := fun v x hl hw => by rw [endAt_setEnd hl hw, if_neg (fun e => hi e.symm)]
  unfold step
  split
  · rfl
  · have hw' : e.who.toNat < 2 := by omega
    simp only
    split
    · unfold hear1
      split
      · rfl
      · split
        · rfl
        · unfold hearF
          simp only
          split
          · split
            · rw [endAt_says, hs _ _ (by exact h.le) hw', endAt_setNet]
            · rfl
          · split
            · rw [hs _ _ (by exact h.le) hw', endAt_setNet]
            · split
              · rw [hs _ _ (by exact h.le) hw', endAt_setNet]
              · rfl
    · split
      · rfl
      · split
        · split <;> rfl
        · split
          · rfl
          · split
            · split <;> rfl
            · split
              · unfold byNum
                simp only
                repeat' split
                all_goals first | rfl | (rw [endAt_sayO]; exact hs _ _ (by exact h.le) hw') | (rw [endAt_says]; exact hs _ _ (by exact h.le) hw') | (rw [endAt_say1]) | exact hs _ _ (by exact h.le) hw'
              · unfold forCrd
                simp only
                repeat' split
                all_goals first | rfl | (rw [endAt_sayO]; exact hs _ _ (by exact h.le) hw') | exact hs _ _ (by exact h.le) hw'
def pcs (l : List Frm) : List Part := l.filterMap fun f => if f.kind = 3 then some ⟨f.seg, f.len, f.data⟩ else none
def grs : List Frm → Int
  | [] => 0
  | f :: l => (if f.kind = 4 then f.len else 0) + grs l
theorem pcs_snoc (l : List Frm) (f : Frm) : pcs (l ++ [f]) = pcs l ++ if f.kind = 3 then [⟨f.seg, f.len, f.data⟩] else [] := by
  unfold pcs; rw [List.filterMap_append]; congr 1; by_cases h : f.kind = 3 <;> simp [h]
theorem pcs_cons (l : List Frm) (f : Frm) : pcs (f :: l) = (if f.kind = 3 then [⟨f.seg, f.len, f.data⟩] else []) ++ pcs l := by
  by_cases h : f.kind = 3 <;> simp [pcs, h]
theorem grs_snoc (l : List Frm) (f : Frm) : grs (l ++ [f]) = grs l + if f.kind = 4 then f.len else 0 := by
  induction l with
  | nil => simp [grs]
  | cons x l ih => simp only [List.cons_append, grs, ih]; omega
structure CDir (c : Cfg) (put : List (List Int)) (t : CTx) (r : CRx) (got : List (List Int)) (D G : List Frm) : Prop where
  td : t.dead = false
  rd : r.dead = false
  mtu : ∀ m ∈ put, (m.length : Int) ≤ c.mtu
  way : r.out = t.hav + grs G + (pcs D).length
  six : r.out ≤ 6
  gr : ∀ f ∈ G, f.kind = 4 → 0 ≤ f.len
  del : ∃ del, pieces c.mps put = del ++ (pcs D ++ t.queue) ∧ joins del = some (r.join, got) ∧ t.sent = del.length + (pcs D).length
section
variable {c : Cfg} {put : List (List Int)} {t : CTx} {r : CRx} {got : List (List Int)} {D G : List Frm} {f : Frm}
theorem grs_nonneg : ∀ {G : List Frm}, (∀ f ∈ G, f.kind = 4 → 0 ≤ f.len) → 0 ≤ grs G
  | [], _ => Int.le_refl _
  | f :: G, h => by
    have h1 := grs_nonneg (G := G) fun x hx => h x (List.mem_cons_of_mem _ hx)
    have h2 := h f List.mem_cons_self
    unfold grs
    split
    · rename_i h3; have := h2 h3; omega
    · omega
theorem CDir.start : CDir c [] ctx0 crx0 [] [] [] := ⟨rfl, rfl, by simp, rfl, by decide, by simp, [], rfl, rfl, rfl⟩
theorem CDir.bound (h : CDir c put t r got D G) (ht : CTxI c t) (hp : put.length ≤ 60) : t.sent ≤ 1440 ∧ t.granted ≤ 1446 ∧ t.hav ≤ 6 := by
  obtain ⟨del, h1, h2, h3⟩ := h.del
  have := pieces_length c.mps put
  rw [h1, List.length_append, List.length_append] at this
  have h4 := ht.sum
  have h5 := h.way
  have h6 := h.six
  have h7 := grs_nonneg h.gr
  omega
theorem CDir.m24 (h : CDir c put t r got D G) (hc : CfgI c) : ∀ m ∈ put, m.length ≤ 24 := fun m hm => by
  have := h.mtu m hm; have := hc.mtu; omega
theorem CDir.puts (h : CDir c put t r got D G) (m : List Int) (hm : (m.length : Int) ≤ c.mtu) : CDir c (put ++ [m]) { t with queue := t.queue ++ segCut m c.mps } r got D G := by
  obtain ⟨del, h1, h2, h3⟩ := h.del
  refine ⟨h.td, h.rd, ?_, h.way, h.six, h.gr, del, ?_, h2, h3⟩
  · intro x hx
    rcases List.mem_append.1 hx with hx | hx
    · exact h.mtu x hx
    · rw [List.mem_singleton.1 hx]; exact hm
  · rw [pieces_snoc, h1]; simp
theorem CDir.sayD (h : CDir c put t r got D G) (hf : f.kind ≠ 3) : CDir c put t r got (D ++ [f]) G := by
  have e : pcs (D ++ [f]) = pcs D := by rw [pcs_snoc, if_neg hf, List.append_nil]
  exact ⟨h.td, h.rd, h.mtu, by rw [e]; exact h.way, h.six, h.gr, by rw [e]; exact h.del⟩
theorem CDir.sayG (h : CDir c put t r got D G) (hf : f.kind ≠ 4) : CDir c put t r got D (G ++ [f]) := by
  refine ⟨h.td, h.rd, h.mtu, by rw [grs_snoc, if_neg hf, Int.add_zero]; exact h.way, h.six, ?_, h.del⟩
  intro x hx hk
  rcases List.mem_append.1 hx with hx | hx
  · exact h.gr x hx hk
  · rw [List.mem_singleton.1 hx] at hk; exact absurd hk hf
theorem CDir.dropD (h : CDir c put t r got (f :: D) G) (hf : f.kind ≠ 3) : CDir c put t r got D G := by
  have e : pcs (f :: D) = pcs D := by rw [pcs_cons, if_neg hf, List.nil_append]
  exact ⟨h.td, h.rd, h.mtu, by rw [← e]; exact h.way, h.six, h.gr, by rw [← e]; exact h.del⟩
theorem CDir.dropG (h : CDir c put t r got D (f :: G)) (hf : f.kind ≠ 4) : CDir c put t r got D G := by
  have hw := h.way
  unfold grs at hw
  rw [if_neg hf, Int.zero_add] at hw
  exact ⟨h.td, h.rd, h.mtu, hw, h.six, fun x hx => h.gr x (List.mem_cons_of_mem _ hx), h.del⟩
theorem CDir.send (h : CDir c put t r got D G) {p : Part} {q : List Part} (hq : t.queue = p :: q) (h0 : t.hav ≠ 0) : CDir c put { t with queue := q, hav := t.hav - 1, sent := t.sent + 1 } r got (D ++ [⟨3, 0, 0, false, false, 0, p.seg, p.len, p.data⟩]) G := by
  obtain ⟨del, h1, h2, h3⟩ := h.del
  have e : pcs (D ++ [⟨3, 0, 0, false, false, 0, p.seg, p.len, p.data⟩]) = pcs D ++ [p] := by rw [pcs_snoc, if_pos rfl]
  have hw := h.way
  refine ⟨h.td, h.rd, h.mtu, ?_, h.six, h.gr, del, ?_, h2, ?_⟩
  · rw [e]; simp only [List.length_append, List.length_singleton]; omega
  · rw [e, h1, hq]; simp
  · rw [e]; simp only [List.length_append, List.length_singleton]; omega
theorem CDir.grant (h : CDir c put t r got D G) : CDir c put t { r with out := 6 } got D (G ++ [⟨4, 0, 0, false, false, 0, 0, 6 - r.out, []⟩]) := by
  have hw := h.way
  have h6 := h.six
  refine ⟨h.td, h.rd, h.mtu, ?_, Int.le_refl _, ?_, h.del⟩
  · rw [grs_snoc, if_pos rfl]; simp only; omega
  · intro x hx hk
    rcases List.mem_append.1 hx with hx | hx
    · exact h.gr x hx hk
    · rw [List.mem_singleton.1 hx]; simp only; omega
theorem CDir.hearG (h : CDir c put t r got D (f :: G)) (hf : f.kind = 4) (ht : CTxI c t) (hp : put.length ≤ 60) : CDir c put (crdTake t f.len) r got D G := by
  have hb := h.bound ht hp
  have hw := h.way
  have h6 := h.six
  have h7 := grs_nonneg (G := G) fun x hx => h.gr x (List.mem_cons_of_mem _ hx)
  have h8 := h.gr f List.mem_cons_self hf
  unfold grs at hw
  rw [if_pos hf] at hw
  have hh := ht.hav
  have e : crdTake t f.len = { t with hav := t.hav + f.len, granted := t.granted + f.len } := by
    unfold crdTake; rw [if_neg (by simp [h.td]), if_neg (by omega)]
  rw [e]
  exact ⟨h.td, h.rd, h.mtu, by simp only; omega, h.six, fun x hx => h.gr x (List.mem_cons_of_mem _ hx), h.del⟩
theorem CDir.hearD (h : CDir c put t r got (f :: D) G) (hf : f.kind = 3) (hc : CfgI c) (ht : CTxI c t) (hr : CRxI r) (hp : put.length ≤ 60) : CDir c put t (crdHear c r f).1 (tell got (crdHear c r f).2) D G ∧ (crdHear c r f).1.out = r.out - 1 := by
  obtain ⟨del, h1, h2, h3⟩ := h.del
  have e : pcs (f :: D) = ⟨f.seg, f.len, f.data⟩ :: pcs D := by rw [pcs_cons, if_pos hf]; rfl
  rw [e] at h1 h3
  have hw := h.way
  rw [e] at hw
  simp only [List.length_cons] at hw h3
  have h7 := grs_nonneg h.gr
  have hh := ht.hav
  have hmem : (⟨f.seg, f.len, f.data⟩ : Part) ∈ pieces c.mps put := by rw [h1]; simp
  obtain ⟨m, m3, hpm⟩ := List.mem_flatMap.1 hmem
  obtain ⟨m1, m2, m4, _⟩ := segCut_mem hpm
  simp only at m2 m4
  have hmtu := h.mtu m m3
  have hjp := joins_pieces hc.mps.1 hc.mps.2 (h.m24 hc)
  have hjt : (pieces c.mps put).take del.length = del := by rw [h1]; simp
  have hjn := joins_next (b := del.length) (p := ⟨f.seg, f.len, f.data⟩) hjp (by rw [h1]; simp) (s := (r.join, got)) (by rw [hjt]; exact h2)
  obtain ⟨j1, j2⟩ := hjn
  simp only at j1 j2
  have hx : crdHear c r f = (⟨r.out - 1, (segPut r.join ⟨f.seg, f.len, f.data⟩).1, r.dead⟩, if (segPut r.join ⟨f.seg, f.len, f.data⟩).2.2 = 2 then [(segPut r.join ⟨f.seg, f.len, f.data⟩).2.1] else []) := by
    unfold crdHear
    rw [if_neg (by simp [h.rd]), if_neg (by omega)]
    simp only
    rw [if_neg j1]
  have hgot : tell got (if (segPut r.join ⟨f.seg, f.len, f.data⟩).2.2 = 2 then [(segPut r.join ⟨f.seg, f.len, f.data⟩).2.1] else []) = if (segPut r.join ⟨f.seg, f.len, f.data⟩).2.2 = 2 then got ++ [(segPut r.join ⟨f.seg, f.len, f.data⟩).2.1] else got := by
    split
    · rename_i h4
      obtain ⟨s, k1, x, k2⟩ := joins_take hjp (del.length + 1)
      rw [j2] at k1
      injection k1 with k1
      rw [if_pos h4] at k1
      rw [← k1] at k2
      simp only at k2
      have := congrArg List.length k2
      simp only [List.length_append, List.length_cons, List.length_nil] at this
      exact tell_one _ _ (by omega)
    · rfl
  rw [hx]
  simp only
  rw [hgot]
  have h6 := h.six
  have et : (pieces c.mps put).take (del.length + 1) = del ++ [⟨f.seg, f.len, f.data⟩] := by rw [h1, List.take_append]; simp [List.take_of_length_le]
  rw [et] at j2
  exact ⟨⟨h.td, h.rd, h.mtu, by simp only; omega, by simp only; omega, h.gr, del ++ [⟨f.seg, f.len, f.data⟩], by rw [h1]; simp, j2, by simp only [List.length_append, List.length_singleton]; omega⟩, trivial⟩
end
def MsgC (m : Msg) : Prop := m.bent = false ∧ ∃ f, frmOk f = true ∧ (f.kind = 3 ∨ f.kind = 4) ∧ Bys f.data ∧ m.bytes = frmBytes f
structure CrdI (w : Wld) : Prop where
  ok : WldI w
  mode : w.cfg.mode = 2
  msg : ∀ i, i < 2 → ∀ m ∈ netAt w i, MsgC m
  bys : ∀ i, i < 2 → ∀ m ∈ (endAt w i).put, Bys m
  dir : ∀ i, i < 2 → CDir w.cfg (endAt w i).put (endAt w i).ctx (endAt w (1 - i)).crx (endAt w (1 - i)).got (rdN (netAt w (1 - i))) (rdN (netAt w i))
theorem MsgC.read {m : Msg} (h : MsgC m) : ∃ f, frmRead m.bytes = some f ∧ frmOk f = true ∧ (f.kind = 3 ∨ f.kind = 4) ∧ Bys f.data := by
  obtain ⟨h1, g, h2, h3, h4, h5⟩ := h
  exact ⟨g, by rw [h5, frmRead_bytes h2], h2, h3, h4⟩
theorem wldNew_C {c : Cfg} (h : CfgI c) (hm : c.mode = 2) : CrdI (wldNew c) := by
  have hI := wldNew_I h
  have e : wldNew c = ⟨c, [end0, end0], [[], []], 0⟩ := by unfold wldNew; rw [if_pos (cfgOk_iff.mpr h)]
  have he : ∀ i, i < 2 → endAt (wldNew c) i = end0 := by
    intro i hi; rw [e]; rcases two_cases hi with rfl | rfl <;> rfl
  have hn : ∀ i, i < 2 → netAt (wldNew c) i = [] := by
    intro i hi; rw [e]; rcases two_cases hi with rfl | rfl <;> rfl
  refine ⟨hI, by rw [e]; exact hm, ?_, ?_, ?_⟩
  · intro i hi m hm; rw [hn i hi] at hm; simp at hm
  · intro i hi m hm; rw [he i hi] at hm; simp [end0] at hm
  · intro i hi
    rw [hn i hi, hn (1 - i) (by omega), he i hi, he (1 - i) (by omega)]
    exact CDir.start
theorem CrdI.turn {w : Wld} (h : CrdI w) {i : Nat} (hi : i < 2) {e : End} {o : Option Frm} (he : EndI w.cfg e) (hb : ∀ m ∈ e.put, Bys m) (ho : ∀ f, o = some f → frmOk f = true ∧ (f.kind = 3 ∨ f.kind = 4) ∧ Bys f.data ∧ (netAt w (1 - i)).length < 30)
    (h1 : CDir w.cfg e.put e.ctx (endAt w (1 - i)).crx (endAt w (1 - i)).got (rdN (netAt w (1 - i)) ++ o.toList) (rdN (netAt w i)))
    (h2 : CDir w.cfg (endAt w (1 - i)).put (endAt w (1 - i)).ctx e.crx e.got (rdN (netAt w i)) (rdN (netAt w (1 - i)) ++ o.toList)) : CrdI (sayO (setEnd w i e) i o) := by
  have hij : 1 - (1 - i) = i := by omega
  have hok := sayO_I (who := i) (h.ok.setEnd hi he) o
  have hne : ∀ j, endAt (sayO (setEnd w i e) i o) j = if j = i then e else endAt w j := fun j => by
    have : endAt (sayO (setEnd w i e) i o) j = endAt (setEnd w i e) j := by cases o with
      | none => rfl
      | some f => exact endAt_say1 _ _ _ _
    rw [this, endAt_setEnd h.ok.le hi]
  have hcf : (sayO (setEnd w i e) i o).cfg = w.cfg := by cases o with
    | none => rfl
    | some f => exact cfg_say1 _ _ _
  have hnn : ∀ j, netAt (sayO (setEnd w i e) i o) j = if j = 1 - i then netAt w j ++ (match o with | none => [] | some f => [⟨false, frmBytes f⟩]) else netAt w j := fun j => by
    cases o with
    | none => simp [sayO, netAt_setEnd]
    | some f =>
      have h30 := (ho f rfl).2.2.2
      show netAt (say1 (setEnd w i e) i f) j = _
      unfold say1
      rw [netAt_setEnd, if_pos h30, netAt_setNet (by exact h.ok.ln) (by omega)]
      by_cases hj : j = 1 - i
      · subst hj; simp
      · rw [if_neg hj, if_neg hj, netAt_setEnd]
  have hrd : ∀ j, rdN (netAt (sayO (setEnd w i e) i o) j) = if j = 1 - i then rdN (netAt w j) ++ o.toList else rdN (netAt w j) := fun j => by
    rw [hnn j]
    split
    · cases o with
      | none => simp
      | some f => simp only [Option.toList]; exact rdN_snoc _ (ho f rfl).1
    · rfl
  refine ⟨hok, by rw [hcf]; exact h.mode, ?_, ?_, ?_⟩
  · intro j hj m hm
    rw [hnn j] at hm
    split at hm
    · rcases List.mem_append.1 hm with hm | hm
      · exact h.msg j hj m hm
      · cases o with
        | none => simp at hm
        | some f => rw [List.mem_singleton.1 hm]; obtain ⟨q1, q2, q3, _⟩ := ho f rfl; exact ⟨rfl, f, q1, q2, q3, rfl⟩
    · exact h.msg j hj m hm
  · intro j hj m hm
    rw [hne j] at hm
    split at hm
    · exact hb m hm
    · exact h.bys j hj m hm
  · intro j hj
    rw [hcf, hne j, hne (1 - j), hrd j, hrd (1 - j)]
    by_cases e' : j = i
    · subst e'
      rw [if_pos rfl, if_neg (by omega), if_pos rfl, if_neg (by omega)]
      exact h1
    · have e' : j = 1 - i := by omega
      subst e'
      rw [if_neg (by omega), if_pos hij, if_neg (by omega), if_pos rfl]
      rw [hij]
      exact h2
theorem CrdI.hear {w : Wld} (h : CrdI w) {i : Nat} (hi : i < 2) : CrdI (hear1 w i) := by
  unfold hear1
  split
  · exact h
  · rename_i m l hn
    have hmsg := h.msg i hi m (by rw [hn]; exact List.mem_cons_self)
    obtain ⟨f, hf, m2, m3, m4⟩ := hmsg.read
    rw [hf]
    simp only
    have hx := h.ok.ends i hi
    have hy := h.ok.ends (1 - i) (by omega)
    have hij : 1 - (1 - i) = i := by omega
    have hnet := h.ok.net i hi
    rw [hn] at hnet
    have hd := h.dir i hi
    have hd' := h.dir (1 - i) (by omega)
    rw [hij] at hd'
    rw [hn, rdN_cons_some hf] at hd hd'
    have hdok := h.ok.setNet hi hnet.tail
    have hnn : ∀ j, netAt (setNet w i l) j = if j = i then l else netAt w j := fun j => netAt_setNet h.ok.ln hi l j
    have key : ∀ e : End, EndI w.cfg e → e.put = (endAt w i).put → CDir w.cfg e.put e.ctx (endAt w (1 - i)).crx (endAt w (1 - i)).got (rdN (netAt w (1 - i))) (rdN l) → CDir w.cfg (endAt w (1 - i)).put (endAt w (1 - i)).ctx e.crx e.got (rdN l) (rdN (netAt w (1 - i))) → CrdI (setEnd (setNet w i l) i e) := by
      intro e he hp h1 h2
      have hne : ∀ j, endAt (setEnd (setNet w i l) i e) j = if j = i then e else endAt w j := fun j => by rw [endAt_setEnd (by exact h.ok.le) hi]; rfl
      refine ⟨hdok.setEnd hi he, h.mode, ?_, ?_, ?_⟩
      · intro j hj x hx'
        rw [netAt_setEnd, hnn j] at hx'
        split at hx'
        · rename_i ej; subst ej; exact h.msg j hj x (by rw [hn]; exact List.mem_cons_of_mem _ hx')
        · exact h.msg j hj x hx'
      · intro j hj x hx'
        rw [hne j] at hx'
        split at hx'
        · rename_i ej; subst ej; rw [hp] at hx'; exact h.bys j hj x hx'
        · exact h.bys j hj x hx'
      · intro j hj
        rw [hne j, hne (1 - j), netAt_setEnd, netAt_setEnd, hnn j, hnn (1 - j)]
        by_cases e' : j = i
        · subst e'
          rw [if_pos rfl, if_neg (by omega), if_neg (by omega), if_pos rfl]
          exact h1
        · have e' : j = 1 - i := by omega
          subst e'
          rw [if_neg (by omega), if_pos hij, if_pos hij, if_neg (by omega)]
          try rw [hij]
          exact h2
    unfold hearF
    simp only
    rw [if_neg (by show ¬ w.cfg.mode = 1; rw [h.mode]; decide)]
    have ee : endAt (setNet w i l) i = endAt w i := rfl
    rw [ee]
    have hlow := hx.low
    rcases m3 with m3 | m3
    · rw [if_neg (by omega), if_pos m3]
      have hko := crdHear_ok (c := w.cfg) (f := f) hx.crx (by
        unfold frmOk at m2
        rw [if_neg (by omega), if_neg (by omega), if_pos m3] at m2
        simp only [Bool.and_eq_true] at m2
        exact m2.2)
      obtain ⟨q1, _⟩ := hd'.hearD m3 h.ok.cfg hy.ctx hx.crx hy.put.1
      exact key _ { hx with crx := hko.1, got := tell_I hx.got hko.2.1 } rfl (hd.dropG (by omega)) q1
    · rw [if_pos m3]
      have h4 : 0 ≤ f.len := hd.gr f List.mem_cons_self m3
      exact key _ { hx with ctx := crdTake_ok hx.ctx h4 } rfl (hd.hearG m3 hx.ctx hx.put.1) (hd'.dropD (by omega))
theorem crdGrant_four {r : CRx} (h0 : 0 ≤ r.out) (h6 : r.out ≤ 5) : frmOk ⟨4, 0, 0, false, false, 0, 0, 6 - r.out, []⟩ = true := by
  have h1 : isNum 0 = true := rfl
  have : inB (6 - r.out) 1 255 = true := inB_iff.2 (by omega)
  simp [frmOk, this]
theorem step_C {g : Bool} {w : Wld} (h : CrdI w) (e : Evt) (hb : Bys e.data) (h7 : e.kind ≤ 7) : CrdI (step g w e) := by
  unfold step
  split
  · exact h
  · rename_i hw
    have hw' : e.who.toNat < 2 := by omega
    simp only
    generalize e.who.toNat = i at hw' ⊢
    split
    · exact h.hear hw'
    · rw [if_neg (by omega), if_neg (by omega), if_neg (by omega), if_neg (by omega), if_neg (by rw [h.mode]; decide)]
      have hx := h.ok.ends i hw'
      have hij : 1 - (1 - i) = i := by omega
      have hd := h.dir i hw'
      have hd' := h.dir (1 - i) (by omega)
      rw [hij] at hd'
      have none1 : ∀ x : End, sayO (setEnd w i x) i none = setEnd w i x := fun _ => rfl
      unfold forCrd
      simp only
      split
      · split
        · rename_i hl
          have hp := crdPut_ok (c := w.cfg) (sdu := e.data) hx.ctx
          cases hy : (crdPut w.cfg (endAt w i).ctx e.data).2 with
          | true =>
            obtain ⟨p1, p2, p3⟩ := crdPut_yes hy
            rw [if_pos rfl, ← none1]
            refine h.turn hw' { hx with ctx := hp, put := put_I hx.put hl p1 h.ok.cfg } ?_ (by intro f hf; cases hf) ?_ (by simpa using hd')
            · intro m hm
              rcases List.mem_append.mp hm with hm | hm
              · exact h.bys i hw' m hm
              · rw [List.mem_singleton.mp hm]; exact hb
            · simp only [p3, Option.toList, List.append_nil]
              exact hd.puts e.data p1
          | false =>
            have p3 := crdPut_no hy
            rw [if_neg (by simp), ← none1]
            refine h.turn hw' { hx with ctx := hp } (h.bys i hw') (by intro f hf; cases hf) ?_ (by simpa using hd')
            simp only [p3, Option.toList, List.append_nil]
            exact hd
        · exact h
      · split
        · split
          · rename_i hl
            have hp := crdSend_ok hx.ctx
            have hbd := hd.bound hx.ctx hx.put.1
            have hcc : crdSend (endAt w i).ctx = ((endAt w i).ctx, none) ∨ ∃ p q, (endAt w i).ctx.queue = p :: q ∧ (endAt w i).ctx.hav ≠ 0 ∧ crdSend (endAt w i).ctx = ({ (endAt w i).ctx with queue := q, hav := (endAt w i).ctx.hav - 1, sent := (endAt w i).ctx.sent + 1 }, some ⟨3, 0, 0, false, false, 0, p.seg, p.len, p.data⟩) := by
              unfold crdSend
              split
              · exact .inl rfl
              · rename_i p q hq
                split
                · exact .inl rfl
                · rename_i hn
                  exact .inr ⟨p, q, hq, by omega, rfl⟩
            rcases hcc with hcc | ⟨p, q, hq, h0, hcc⟩
            · rw [hcc] at hp ⊢
              refine h.turn hw' { hx with ctx := hp } (h.bys i hw') (by intro f hf; cases hf) ?_ ?_
              · simpa using hd
              · simpa using hd'
            · rw [hcc] at hp ⊢
              have hpm := hx.ctx.qu p (by rw [hq]; exact List.mem_cons_self)
              obtain ⟨del, k1, _⟩ := hd.del
              have hmem : p ∈ pieces w.cfg.mps (endAt w i).put := by rw [k1, hq]; simp
              obtain ⟨m, m3, hpc⟩ := List.mem_flatMap.1 hmem
              refine h.turn hw' { hx with ctx := hp } (h.bys i hw') ?_ ?_ ?_
              · intro f hf
                injection hf with hf
                subst hf
                have hpo : pieceOk p.seg p.len p.data.length = true := hpm.1
                exact ⟨by simp [frmOk, hpo], .inl rfl, (segCut_mem hpc).2.2.2 (h.bys i hw' m m3), hl⟩
              · exact hd.send hq h0
              · exact hd'.sayG (by simp)
          · exact h
        · split
          · split
            · rename_i hl
              have hp := crdGrant_ok hx.crx
              have h0 := hx.crx.1
              have hcc : crdGrant (endAt w i).crx = ((endAt w i).crx, none) ∨ ((endAt w i).crx.out ≤ 5 ∧ crdGrant (endAt w i).crx = ({ (endAt w i).crx with out := 6 }, some ⟨4, 0, 0, false, false, 0, 0, 6 - (endAt w i).crx.out, []⟩)) := by
                unfold crdGrant
                split
                · exact .inl rfl
                · rename_i hn
                  exact .inr ⟨by omega, rfl⟩
              rcases hcc with hcc | ⟨h5, hcc⟩
              · rw [hcc] at hp ⊢
                refine h.turn hw' { hx with crx := hp } (h.bys i hw') (by intro f hf; cases hf) ?_ ?_
                · simpa using hd
                · simpa using hd'
              · rw [hcc] at hp ⊢
                refine h.turn hw' { hx with crx := hp } (h.bys i hw') ?_ ?_ ?_
                · intro f hf
                  injection hf with hf
                  subst hf
                  exact ⟨crdGrant_four h0.1 h5, .inr rfl, by intro x hx; simp at hx, hl⟩
                · exact hd.sayD (by simp)
                · exact hd'.grant
            · exact h
          · exact h
theorem CrdI.pre {w : Wld} (h : CrdI w) {i : Nat} (hi : i < 2) : (endAt w i).put.take (endAt w (1 - i)).got.length = (endAt w (1 - i)).got := by
  have hd := h.dir i hi
  obtain ⟨del, h1, h2, _⟩ := hd.del
  have hc := h.ok.cfg
  obtain ⟨s, k1, x, k2⟩ := joins_take (joins_pieces hc.mps.1 hc.mps.2 (hd.m24 hc)) del.length
  have e : (pieces w.cfg.mps (endAt w i).put).take del.length = del := by rw [h1]; simp
  rw [e, h2] at k1
  injection k1 with k1
  subst k1
  rw [k2]
  exact List.take_left
theorem step_num_same {g : Bool} {w : Wld} (h : CrdI w) (e : Evt) (h7 : e.kind ≤ 7) {i : Nat} (hi : i < 2) : (endAt (step g w e) i).tx = (endAt w i).tx ∧ (endAt (step g w e) i).rx = (endAt w i).rx := by
  by_cases hwi : e.who.toNat = i
  · have hs : ∀ (v : Wld) (x : End), v.ends.length = 2 → endAt (setEnd v e.who.toNat x) i = x := fun v x hl => by rw [endAt_setEnd hl (by omega), if_pos hwi.symm]
    subst hwi
    unfold step
    split
    · exact ⟨rfl, rfl⟩
    · simp only
      split
      · unfold hear1
        split
        · exact ⟨rfl, rfl⟩
        · split
          · exact ⟨rfl, rfl⟩
          · unfold hearF
            simp only
            rw [if_neg (by show ¬ w.cfg.mode = 1; rw [h.mode]; decide)]
            split
            · rw [hs _ _ (by exact h.ok.le)]; exact ⟨rfl, rfl⟩
            · split
              · rw [hs _ _ (by exact h.ok.le)]; exact ⟨rfl, rfl⟩
              · exact ⟨rfl, rfl⟩
      · rw [if_neg (by omega), if_neg (by omega), if_neg (by omega), if_neg (by omega), if_neg (by rw [h.mode]; decide)]
        unfold forCrd
        simp only
        repeat' split
        all_goals first | exact ⟨rfl, rfl⟩ | (rw [endAt_sayO, hs _ _ (by exact h.ok.le)]; exact ⟨rfl, rfl⟩) | (rw [hs _ _ (by exact h.ok.le)]; exact ⟨rfl, rfl⟩)
  · rw [step_other h.ok e hwi]; exact ⟨rfl, rfl⟩
theorem CrdI.alive {w : Wld} (h : CrdI w) {i : Nat} (hi : i < 2) : (endAt w i).ctx.dead = false ∧ (endAt w i).crx.dead = false := by
  have h1 := (h.dir i hi).td
  have h2 := (h.dir (1 - i) (by omega)).rd
  rw [show 1 - (1 - i) = i by omega] at h2
  exact ⟨h1, h2⟩
open Go.RowKit
theorem inB_no {n lo hi : Int} : inB n lo hi = false ↔ ¬ (lo ≤ n ∧ n ≤ hi) := by rw [← inB_iff]; simp
structure Rep (α : Type) where
  sz : Nat
  K : Zc → α → List Value → Prop
  len : ∀ {z x cs}, K z x cs → cs.length = sz
  one : ∀ {z x cs}, K z x cs → ∀ u ∈ cs, u.oneCell' = true
  mono : ∀ {z z' : Zc} {x cs}, z ≤ z' → K z x cs → K z' x cs
def Els {α : Type} (d : Rep α) (z : Zc) : List α → List Value → Prop
  | [], cs => cs = []
  | x :: xs, cs => ∃ c r, cs = c ++ r ∧ d.K z x c ∧ Els d z xs r
def Sl {α : Type} (d : Rep α) (z : Zc) (xs : List α) (v : Value) : Prop := ∃ A c cs, v = .slice A xs.length c ∧ xs.length ≤ c ∧ Els d z xs cs ∧ RdAt z A 0 cs
section
variable {α : Type} {d : Rep α} {z z' : Zc} {xs ys : List α} {cs ds : List Value} {x : α} {v : Value}
theorem Els.mono (hz : z ≤ z') (h : Els d z xs cs) : Els d z' xs cs := by
  induction xs generalizing cs with
  | nil => exact h
  | cons x xs ih => obtain ⟨c, r, rfl, h1, h2⟩ := h; exact ⟨c, r, rfl, d.mono hz h1, ih h2⟩
theorem Els.length (h : Els d z xs cs) : cs.length = xs.length * d.sz := by
  induction xs generalizing cs with
  | nil => rw [show cs = [] from h]; simp
  | cons x xs ih =>
    obtain ⟨c, r, rfl, h1, h2⟩ := h
    rw [List.length_append, d.len h1, ih h2, List.length_cons, Nat.succ_mul]; omega
theorem Els.one (h : Els d z xs cs) : ∀ u ∈ cs, u.oneCell' = true := by
  induction xs generalizing cs with
  | nil => rw [show cs = [] from h]; simp
  | cons x xs ih =>
    obtain ⟨c, r, rfl, h1, h2⟩ := h
    intro u hu
    rcases List.mem_append.mp hu with hu | hu
    · exact d.one h1 u hu
    · exact ih h2 u hu
theorem Els.append (h : Els d z xs cs) (k : Els d z ys ds) : Els d z (xs ++ ys) (cs ++ ds) := by
  induction xs generalizing cs with
  | nil => rw [show cs = [] from h]; exact k
  | cons x xs ih => obtain ⟨c, r, rfl, h1, h2⟩ := h; exact ⟨c, r ++ ds, by simp, h1, ih h2⟩
theorem Els.single (h : d.K z x cs) : Els d z [x] cs := ⟨cs, [], by simp, h, rfl⟩
theorem Els.drop (h : Els d z xs cs) (k : Nat) : Els d z (xs.drop k) (cs.drop (k * d.sz)) := by
  induction k generalizing xs cs with
  | zero => simpa using h
  | succ k ih =>
    cases xs with
    | nil => rw [show cs = [] from h]; simp [Els]
    | cons x xs =>
      obtain ⟨c, r, rfl, h1, h2⟩ := h
      have := ih h2
      rw [List.drop_succ_cons, Nat.succ_mul, Nat.add_comm, ← List.drop_drop, ← d.len h1, List.drop_left]
      rw [d.len h1]; exact this
theorem Els.take (h : Els d z xs cs) (k : Nat) : Els d z (xs.take k) (cs.take (k * d.sz)) := by
  induction k generalizing xs cs with
  | zero => simp [Els]
  | succ k ih =>
    cases xs with
    | nil => rw [show cs = [] from h]; simp [Els]
    | cons x xs =>
      obtain ⟨c, r, rfl, h1, h2⟩ := h
      have hl := d.len h1
      rw [List.take_succ_cons]
      refine ⟨c, r.take (k * d.sz), ?_, h1, ih h2⟩
      rw [List.take_append, List.take_of_length_le (by rw [Nat.succ_mul]; omega), hl, show (k + 1) * d.sz - d.sz = k * d.sz by rw [Nat.succ_mul]; omega]
theorem Els.get (h : Els d z xs cs) {k : Nat} (hk : xs[k]? = some x) : ∃ c, d.K z x c ∧ ∀ i u, c[i]? = some u → cs[k * d.sz + i]? = some u := by
  induction xs generalizing cs k with
  | nil => simp at hk
  | cons y xs ih =>
    obtain ⟨c, r, rfl, h1, h2⟩ := h
    have hl := d.len h1
    cases k with
    | zero =>
      simp only [List.getElem?_cons_zero, Option.some.injEq] at hk
      subst hk
      refine ⟨c, h1, fun i u hu => ?_⟩
      rw [Nat.zero_mul, Nat.zero_add, List.getElem?_append_left (List.getElem?_eq_some_iff.mp hu).1]; exact hu
    | succ k =>
      obtain ⟨c', k1, k2⟩ := ih h2 (k := k) (by simpa using hk)
      refine ⟨c', k1, fun i u hu => ?_⟩
      rw [Nat.succ_mul, List.getElem?_append_right (by omega), show k * d.sz + d.sz + i - c.length = k * d.sz + i by omega]
      exact k2 i u hu
theorem Els.split (h : Els d z (xs ++ ys) cs) : ∃ c1 c2, cs = c1 ++ c2 ∧ Els d z xs c1 ∧ Els d z ys c2 := by
  induction xs generalizing cs with
  | nil => exact ⟨[], cs, rfl, rfl, h⟩
  | cons x xs ih =>
    obtain ⟨c, r, rfl, h1, h2⟩ := h
    obtain ⟨c1, c2, rfl, h3, h4⟩ := ih h2
    exact ⟨c ++ c1, c2, by simp, ⟨c, c1, rfl, h1, h3⟩, h4⟩
theorem Sl.mono (hz : z ≤ z') (h : Sl d z xs v) : Sl d z' xs v := by
  obtain ⟨A, c, cs, rfl, hc, he, hr⟩ := h
  exact ⟨A, c, cs, rfl, hc, he.mono hz, hr.mono hz⟩
theorem Sl.nil (z : Zc) (A : Option Addr) (c : Nat) : Sl d z [] (.slice A 0 c) := ⟨A, c, [], rfl, Nat.zero_le _, rfl, RdAt.nil _ _ _⟩
theorem Sl.one (h : Sl d z xs v) : v.oneCell' = true := by obtain ⟨A, c, cs, rfl, _⟩ := h; rfl
theorem RdAt.isAt {A : Option Addr} {o : Nat} {vs : List Value} (h : RdAt z A o vs) (hn : 0 < vs.length) : IsAt A := by
  obtain ⟨b, o', e, _⟩ := h (by intro e; rw [e] at hn; simp at hn); exact ⟨b, o', e⟩
theorem Els.at {A : Option Addr} (h : Els d z xs cs) (hr : RdAt z A 0 cs) {k : Nat} (hk : xs[k]? = some x) : ∃ c, d.K z x c ∧ RdAt z A (k * d.sz) c := by
  obtain ⟨c, h1, h2⟩ := h.get hk
  refine ⟨c, h1, ?_⟩
  have := hr.sub (k * d.sz) c h2
  rwa [Nat.zero_add] at this
theorem Els.isAt {A : Option Addr} (h : Els d z xs cs) (hr : RdAt z A 0 cs) (hs : 0 < d.sz) {k : Nat} (hk : k < xs.length) : IsAt A :=
  hr.isAt (by rw [h.length]; exact Nat.mul_pos (by omega) hs)
theorem RdAt.cut {A : Option Addr} {c l sz : Nat} (hr : RdAt z A 0 cs) (hl : cs.length ≤ c * sz) : RdAt z (cutA A c l sz) 0 (cs.drop (l * sz)) := fun hn => by
  unfold cutA
  split
  · rename_i e
    subst e
    exact absurd (List.drop_eq_nil_of_le hl) hn
  · obtain ⟨b, o', e, hb, hc⟩ := hr (by intro e; subst e; simp at hn)
    subst e
    refine ⟨b, o' + l * sz, by simp [add_at], hb, fun i u hu => ?_⟩
    rw [List.getElem?_drop] at hu
    have := hc _ u hu
    rw [show o' + l * sz + 0 + i = o' + 0 + (l * sz + i) by omega]; exact this
theorem RdAt.take {A : Option Addr} {o : Nat} (hr : RdAt z A o cs) (n : Nat) : RdAt z A o (cs.take n) := by
  have := hr.sub 0 (cs.take n) (fun i u hu => by
    have hi := (List.getElem?_eq_some_iff.1 hu).1
    simp at hi
    rw [List.getElem?_take_of_lt (by omega)] at hu
    rwa [Nat.zero_add])
  simpa using this
end
theorem RdAt.cell {z : Zc} {A : Option Addr} {o : Nat} {cs : List Value} (h : RdAt z A o cs) (k : Nat) {u : Value} (hk : cs[k]? = some u) : RdAt z A (o + k) [u] :=
  h.sub k [u] fun i x hx => by
    cases i with
    | zero => simp at hx; subst hx; exact hk
    | succ i => simp at hx
theorem Sl.take {α : Type} {d : Rep α} {z : Zc} {xs : List α} {A : Option Addr} {n c : Nat} (h : Sl d z xs (.slice A n c)) {k c' : Nat} (hk : k ≤ xs.length) (hc' : k ≤ c') : Sl d z (xs.take k) (.slice A k c') := by
  obtain ⟨A', c1, cs, e, hc, he, hr⟩ := h
  injection e with e1 e2 e3
  subst e1; subst e3
  refine ⟨A, c', cs.take (k * d.sz), ?_, ?_, he.take k, hr.take _⟩
  · rw [List.length_take, Nat.min_eq_left hk]
  · rw [List.length_take]; omega
theorem Sl.drop {α : Type} {d : Rep α} {z : Zc} {xs : List α} {A : Option Addr} {n c : Nat} (h : Sl d z xs (.slice A n c)) {k : Nat} : Sl d z (xs.drop k) (.slice (cutA A c k d.sz) (n - k) (c - k)) := by
  obtain ⟨A', c1, cs, e, hc, he, hr⟩ := h
  injection e with e1 e2 e3
  subst e1; subst e3; subst e2
  refine ⟨_, _, cs.drop (k * d.sz), by rw [List.length_drop], by rw [List.length_drop]; omega, he.drop k, hr.cut ?_⟩
  rw [he.length]; exact Nat.mul_le_mul_right _ hc
def bRep : Rep Int where
  sz := 1
  K := fun _ x cs => cs = [.int .u8 x] ∧ 0 ≤ x ∧ x ≤ 255
  len := by rintro z x cs ⟨rfl, _⟩; rfl
  one := by rintro z x cs ⟨rfl, _⟩ u hu; rw [List.mem_singleton.mp hu]; rfl
  mono := fun _ h => h
abbrev bc (l : List Int) : List Value := l.map (Value.int .u8)
theorem Els.bytes {z : Zc} {l : List Int} {cs : List Value} (h : Els bRep z l cs) : cs = bc l ∧ Bys l := by
  induction l generalizing cs with
  | nil => rw [show cs = [] from h]; exact ⟨rfl, fun x hx => by cases hx⟩
  | cons x l ih =>
    obtain ⟨c, r, rfl, ⟨rfl, hx⟩, h2⟩ := h
    obtain ⟨rfl, k⟩ := ih h2
    exact ⟨rfl, fun y hy => by rcases List.mem_cons.mp hy with rfl | hy; exact hx; exact k y hy⟩
theorem Els.of_bytes {z : Zc} {l : List Int} (h : Bys l) : Els bRep z l (bc l) := by
  induction l with
  | nil => rfl
  | cons x l ih => exact ⟨[.int .u8 x], _, rfl, ⟨rfl, h x List.mem_cons_self⟩, ih (fun y hy => h y (List.mem_cons_of_mem _ hy))⟩
abbrev By (z : Zc) (l : List Int) (v : Value) : Prop := Sl bRep z l v
theorem By.form {z : Zc} {l : List Int} {v : Value} (h : By z l v) : ∃ A c, v = .slice A l.length c ∧ l.length ≤ c ∧ Bys l ∧ RdAt z A 0 (bc l) := by
  obtain ⟨A, c, cs, rfl, hc, he, hr⟩ := h
  obtain ⟨rfl, hb⟩ := he.bytes
  exact ⟨A, c, rfl, hc, hb, hr⟩
theorem By.mk {z : Zc} {l : List Int} {A : Option Addr} {c : Nat} (hc : l.length ≤ c) (hb : Bys l) (hr : RdAt z A 0 (bc l)) : By z l (.slice A l.length c) := ⟨A, c, _, rfl, hc, Els.of_bytes hb, hr⟩
theorem By.bys {z : Zc} {l : List Int} {v : Value} (h : By z l v) : Bys l := by obtain ⟨_, _, _, _, h, _⟩ := h.form; exact h
def Rep.slice {α : Type} (d : Rep α) : Rep (List α) where
  sz := 1
  K := fun z xs cs => ∃ v, cs = [v] ∧ Sl d z xs v
  len := by rintro z x cs ⟨v, rfl, _⟩; rfl
  one := by rintro z x cs ⟨v, rfl, h⟩ u hu; rw [List.mem_singleton.mp hu]; exact h.one
  mono := by rintro z z' x cs hz ⟨v, rfl, h⟩; exact ⟨v, rfl, h.mono hz⟩
abbrev sduRep : Rep (List Int) := bRep.slice
def pRep : Rep Part where
  sz := 3
  K := fun z p cs => ∃ v, cs = [.int .i64 p.seg, .int .i64 p.len, v] ∧ By z p.data v
  len := by rintro z x cs ⟨v, rfl, _⟩; rfl
  one := by rintro z x cs ⟨v, rfl, h⟩ u hu; simp at hu; rcases hu with rfl | rfl | rfl; rfl; rfl; exact h.one
  mono := by rintro z z' x cs hz ⟨v, rfl, h⟩; exact ⟨v, rfl, Sl.mono hz h⟩
def mRep : Rep Msg where
  sz := 2
  K := fun z m cs => ∃ v, cs = [.bool m.bent, v] ∧ By z m.bytes v
  len := by rintro z x cs ⟨v, rfl, _⟩; rfl
  one := by rintro z x cs ⟨v, rfl, h⟩ u hu; simp at hu; rcases hu with rfl | rfl; rfl; exact h.one
  mono := by rintro z z' x cs hz ⟨v, rfl, h⟩; exact ⟨v, rfl, Sl.mono hz h⟩
def fRep : Rep Frm where
  sz := 9
  K := fun z f cs => ∃ v, cs = [.int .i64 f.kind, .int .i64 f.seq, .int .i64 f.ack, .bool f.poll, .bool f.fin, .int .i64 f.say, .int .i64 f.seg, .int .i64 f.len, v] ∧ By z f.data v
  len := by rintro z x cs ⟨v, rfl, _⟩; rfl
  one := by rintro z x cs ⟨v, rfl, h⟩ u hu; simp at hu; rcases hu with rfl | rfl | rfl | rfl | rfl | rfl | rfl | rfl | rfl <;> first | rfl | exact h.one
  mono := by rintro z z' x cs hz ⟨v, rfl, h⟩; exact ⟨v, rfl, Sl.mono hz h⟩
abbrev vCfg (c : Cfg) : Value := .agg #[.int .i64 c.mode, .int .i64 c.win, .int .i64 c.mps, .int .i64 c.mtu, .int .i64 c.tri]
abbrev vPart (p : Part) (v : Value) : Value := .agg #[.int .i64 p.seg, .int .i64 p.len, v]
abbrev vFrm (f : Frm) (v : Value) : Value := .agg #[.int .i64 f.kind, .int .i64 f.seq, .int .i64 f.ack, .bool f.poll, .bool f.fin, .int .i64 f.say, .int .i64 f.seg, .int .i64 f.len, v]
abbrev vJoin (j : Join) (v : Value) : Value := .agg #[.int .i64 j.len, v]
abbrev vCRx (r : CRx) (v : Value) : Value := .agg #[.int .i64 r.out, .int .i64 r.join.len, v, .bool r.dead]
abbrev vCTx (t : CTx) (v : Value) : Value := .agg #[.int .i64 t.hav, v, .int .i64 t.granted, .int .i64 t.sent, .bool t.dead]
abbrev vRx (r : Rx) (v : Value) : Value := .agg #[.int .i64 r.expect, .int .i64 r.count, .int .i64 r.join.len, v, .bool r.again, .bool r.busy, .bool r.dead]
abbrev vTx (t : Tx) (v u : Value) : Value := .agg #[.int .i64 t.next, .int .i64 t.acked, v, .int .i64 t.sent, u, .bool t.asks, .int .i64 t.tries, .bool t.held, .int .i64 t.count, .bool t.dead]
section
variable {P : Program} {s : St} {K : St → Prop}
theorem appM_emptyO (k : Nat) {t e sz : Nat} {x y : Operand} {d : Option Nat} (ht : AppTy P t e sz) (hk : look k s.L = none) (hx : (∃ A0, ev s.t x = .c (.v (.slice A0 0 0))) ∨ ∃ j o, ev s.t x = .c (.s j o 0 0))
    {A : Option Addr} {m c : Nat} {news : List Value} (hy : ev s.t y = .c (.v (.slice A m c))) (hr : RdAt s.z A 0 news) (hl : news.length = m * sz) (h1 : ∀ u ∈ news, u.oneCell' = true) (hb : m ≤ 1000000000) (hm : 0 < m)
    (hK : ∀ A c, m ≤ c → K ⟨stO s.t d (.c (.v (.slice A m c))), (k, .own (rowA e sz (.slice A m c) m news)) :: s.L, s.z, s.n⟩) : appM P t x y d s K := fun o ho hd C ρ a w Q h => by
  subst hd
  obtain ⟨A0, hxv⟩ : ∃ A0, a.eval x = .slice A0 0 0 := by
    have hxd := ev_den h.fr x
    rcases hx with ⟨A0, hx⟩ | ⟨j, o', hx⟩
    · rw [hx] at hxd; exact ⟨A0, hxd⟩
    · rw [hx] at hxd; obtain ⟨b, _, hb2⟩ := hxd; exact ⟨_, hb2⟩
  have hyv : a.eval y = .slice A m c := by have := ev_den h.fr y; rw [hy] at this; exact this
  have hr' := hr.rd h.mem
  obtain ⟨i, z0, i1, i2, i3, i4, i5⟩ := ht.inf
  have hne : news ≠ [] := by
    intro e'; subst e'; simp only [List.length_nil] at hl
    rcases Nat.mul_eq_zero.1 hl.symm with h' | h'
    · omega
    · have := ht.pos; omega
  obtain ⟨b, ob, rfl, hc⟩ := hr' hne
  obtain ⟨F, f1, f2⟩ := h.mem
  have hrun : ∃ v' w', (Builtin.append_ #[t, t] o.type #[a.eval x, a.eval y]).run P w = .ok v' w' ∧ Row w' e sz v' m news ∧ w.grownBy w' none ∧ ∀ g, v'.ownBlock = some g → w.heap.size ≤ g := by
    rw [hxv, hyv]
    cases A0 with
    | none =>
      obtain ⟨v', w', k1, k2, k3, _, k5⟩ := run_append_own_at (P := P) w w.heap.size t o.type e i z0 sz i.bytes ht.und i1 i2 i3 rfl i5 ht.pos (.slice none 0 0) 0 [] (World.ownsRow_nil w _ e sz) ⟨b, ob, none⟩ m c news hl (fun j u hu => by rw [add_at]; exact hc j u hu) h1 (by simp only [maxLen]; omega) (by have := Nat.mul_le_mul hb i4; rw [Nat.zero_add]; omega) (Nat.le_refl _)
      have k2' := Row.of_own k2
      rw [List.nil_append, Nat.zero_add] at k2'
      refine ⟨v', w', k1, k2', k3, fun g hg => ?_⟩
      rcases k5 with e' | e'
      · rw [e'] at hg; cases hg
      · rw [e'] at hg; injection hg with hg; omega
    | some a0 =>
      obtain ⟨v', w', k1, k2, k3⟩ := run_append_arg_grows (P := P) w t o.type e i z0 sz i.bytes ht.und i1 i2 i3 rfl i5 ht.pos a0 0 0 [] (by simp) (fun j u hu => by simp at hu) ⟨b, ob, none⟩ m c news hl (fun j u hu => by rw [add_at]; exact hc j u hu) (by omega) (by simp only [maxLen]; omega) (by have := Nat.mul_le_mul hb i4; rw [Nat.zero_add]; omega)
      have k2' := Row.of_own k2
      rw [List.nil_append, Nat.zero_add] at k2'
      refine ⟨v', w', k1, k2', k3, fun g hg => ?_⟩
      rcases k2.2 with ⟨e', _⟩ | ⟨g', cap, cur, e', hg', _⟩
      · rw [e'] at hg; cases hg
      · rw [e'] at hg; simp [Value.ownBlock] at hg; omega
  obtain ⟨v', w', hrun, r1, r2, r3⟩ := hrun
  have hW : WOk ⟨w, fun _ => False, s.z⟩ s.z (fun b => v'.ownBlock = some b) w' := by
    refine ⟨r2.os, r2.tape, r2.output, r2.size, Nat.le_trans f2.zsize r2.size, fun b hb => ?_, fun b hb hz => ?_, fun b hb hf => ?_, fun b hb => ?_, fun b hb => .inl hb, Zc.rfl' _⟩
    · exact (r2.block b (Nat.lt_of_lt_of_le hb.2 f2.zsize) (fun e => by cases e)).trans (f2.frz b hb)
    · have := r3 b hb; have := Nat.lt_of_lt_of_le hz.2 f2.zsize; omega
    · exact r2.block b hb (fun e => by cases e)
    · exact .inr (r3 b hb)
  obtain ⟨hS, hP⟩ := own_after (d := o.dst) (k := k) (sv := .c (.v v')) (v := v') (A := emp) (A' := rowA e sz v' m news) (L := s.L) (F1 := fun _ => False) (F2 := F) h f1 f2 (fun _ h => h) f1 (fun _ h => h.elim) (fun b => by simp)
    (fun _ _ _ h => h) (fun e cs => by rw [hk]; simp) ⟨r1, fun _ => Iff.rfl⟩ hW rfl
  obtain ⟨A', c', e1, e2, _⟩ := r1.rd
  subst e1
  exact wp_value (run_app ho hrun) ⟨_, ρ, hK A' c' e2, hS, hP⟩
theorem appM_zero {t e sz : Nat} {x y : Operand} {d : Option Nat} (ht : AppTy P t e sz) (hx : (∃ A0 n0 c0, n0 ≤ c0 ∧ ev s.t x = .c (.v (.slice A0 n0 c0))) ∨ ∃ j o, ev s.t x = .c (.s j o 0 0))
    {A : Option Addr} {c : Nat} (hy : ev s.t y = .c (.v (.slice A 0 c))) (hK : K ⟨stO s.t d (ev s.t x), s.L, s.z, s.n⟩) : appM P t x y d s K := fun o ho hd C ρ a w Q h => by
  subst hd
  obtain ⟨i, z0, i1, i2, i3, i4, i5⟩ := ht.inf
  have hyv : a.eval y = .slice A 0 c := by have := ev_den h.fr y; rw [hy] at this; exact this
  have hxd := ev_den h.fr x
  obtain ⟨A0, n0, c0, hn, hxv⟩ : ∃ A0 n0 c0, n0 ≤ c0 ∧ a.eval x = .slice A0 n0 c0 := by
    rcases hx with ⟨A0, n0, c0, hn, hx⟩ | ⟨j, o', hx⟩
    · rw [hx] at hxd; exact ⟨A0, n0, c0, hn, hxd⟩
    · rw [hx] at hxd; obtain ⟨b, _, hb2⟩ := hxd; exact ⟨_, _, _, Nat.le_refl _, hb2⟩
  refine wp_value (run_app ho (by rw [hxv, hyv]; exact run_append_zero t _ e i ht.und i1 w A0 A n0 c0 c hn)) ⟨_, ρ, hK, h.put o.dst ?_, Stp.same⟩
  rw [← hxv]
  exact hxd
end
/-! Functions that own, entered. -/
theorem spec_enter0 {P : Program} {f : FuncId} {fn : Func} {ic : IC} {fr : List FR} {pl : List FuncId} {args : List Value} {m : Nat} {z : Zc} {R : Value → Zc → Asrt → Prop}
    (hf : P.funcs[f]? = some fn) (hc : fn.body.bind (trC P pl) = some ic) (hr : fres P fn.results.toList = some fr) (hn : fn.ntmps = m)
    (hv : vcI P ic ⟨args.map ofV ++ List.replicate (m - args.length) unS, [], z, 0⟩ (postK fr R)) : Spec P f args z emp R :=
  spec_enter hf hc hr hn fun C ρ a w hs => ⟨_, ρ, hv, hs.df, hs.fr, hs.nm, hs.mem.drop⟩
theorem spec_enter1 {P : Program} {f : FuncId} {fn : Func} {ic : IC} {fr : List FR} {pl : List FuncId} {args : List Value} {m : Nat} {z : Zc} {A : Asrt} {R : Value → Zc → Asrt → Prop}
    (hf : P.funcs[f]? = some fn) (hc : fn.body.bind (trC P pl) = some ic) (hr : fres P fn.results.toList = some fr) (hn : fn.ntmps = m)
    (hv : vcI P ic ⟨args.map ofV ++ List.replicate (m - args.length) unS, [(1000, .own A)], z, 0⟩ (postK fr R)) : Spec P f args z A R :=
  spec_enter hf hc hr hn fun C ρ a w hs => ⟨_, ρ, hv, hs⟩
theorem spec_enterL {P : Program} {f : FuncId} {fn : Func} {ic : IC} {fr : List FR} {pl : List FuncId} {args : List Value} {m : Nat} {z : Zc} {As : List Asrt} {R : Value → Zc → Asrt → Prop} (ks : List Nat)
    (hf : P.funcs[f]? = some fn) (hc : fn.body.bind (trC P pl) = some ic) (hr : fres P fn.results.toList = some fr) (hn : fn.ntmps = m) (hl : ks.length = As.length)
    (hv : vcI P ic ⟨args.map ofV ++ List.replicate (m - args.length) unS, zipL ks As [], z, 0⟩ (postK fr R)) : Spec P f args z (starL As) R :=
  spec_enter hf hc hr hn fun C ρ a w hs => ⟨_, ρ, hv, (Tf.open' (s := ⟨args.map ofV ++ List.replicate (m - args.length) unS, [(1000, .own (starL As))], z, 0⟩) 1000 ks rfl hl (by simp [del, look])).sat hs⟩
theorem Spec.frz {P : Program} {f : FuncId} {args : List Value} {z : Zc} {e sz : Nat} {A0 : Asrt} {R : Value → Zc → Asrt → Prop} {R' : Value → Zc → Prop} (h : Spec P f args z A0 R)
    (hR : ∀ v z' A', z ≤ z' → R v z' A' → ∃ u n cs, A' = rowA e sz u n cs ∧ ∀ A c z'', u = .slice A n c → n ≤ c → z' ≤ z'' → RdAt z'' A 0 cs → R' v z'') : Spec P f args z A0 fun v z' A' => A' = emp ∧ R' v z' := fun w F hw hA => by
  refine (h w F hw hA).mono ?_
  rintro e' w' ⟨v, z', A', F', rfl, h2, h3, h4⟩
  obtain ⟨u, n, cs, rfl, hk⟩ := hR v z' A' h4.zle h2
  obtain ⟨A, c, z'', k1, k2, k3, k4, ⟨F'', k5, k6⟩⟩ := Mem.freezeRow (C := ⟨w, F, z⟩) (ρ := []) (z := z') (L := [(0, .own (rowA e sz u n cs))]) (w := w') (k := 0) ⟨F', ⟨F', fun _ => False, h3, fun _ h => h, fun _ _ h => h, fun b => by simp⟩, h4⟩ rfl
  exact ⟨v, z'', emp, fun _ => False, rfl, ⟨rfl, hk A c z'' k1 k2 k3 k4⟩, fun _ h => h, k6.less fun _ h => h.elim⟩
end Go.Proofs.YtnkhjnieidlknaaGreat
