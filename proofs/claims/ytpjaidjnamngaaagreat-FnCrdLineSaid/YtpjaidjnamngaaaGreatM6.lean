/- What values say: lists of things in memory that stays. · The engine, last part: append onto nothing, that gives a row of one's own. · The engine: what is behind a pointer that is handed in. · The engine: rows that grow, with their form. · Codes of functions, group Base. -/
import Derived.Test.YtpjaidjnamngaaaGreatM4
import Derived.Test.YtpjaidjnamngaaaGreatM5
import Derived.Test.YtpjaidjnamngaaaGreatM3
import Derived.Test.YtpjaidjnamngaaaGreatProg
namespace Go.Proofs.YtpjaidjnamngaaaGreat
set_option linter.unusedVariables false
set_option linter.unusedSimpArgs false
open Go.RowKit
theorem inB_no {n lo hi : Int} : inB n lo hi = false ↔ ¬ (lo ≤ n ∧ n ≤ hi) := by rw [← inB_iff]; simp
structure Rep (α : Type) where
  sz : Nat
  K : Zc → α → List Value → Prop
  len : ∀ {z x cs}, K z x cs → cs.length = sz
  one : ∀ {z x cs}, K z x cs → ∀ u ∈ cs, u.oneCell' = true
  mono : ∀ {z z' : Zc} {x cs}, z ≤ z' → K z x cs → K z' x cs
def Els {α : Type} (d : Rep α) (z : Zc) : List α → List Value → Prop
  | [], cs => cs = []
  | x :: xs, cs => ∃ c r, cs = c ++ r ∧ d.K z x c ∧ Els d z xs r
/-- A slice. -/
def Sl {α : Type} (d : Rep α) (z : Zc) (xs : List α) (v : Value) : Prop := ∃ A c cs, v = .slice A xs.length c ∧ xs.length ≤ c ∧ Els d z xs cs ∧ RdAt z A 0 cs
section
variable {α : Type} {d : Rep α} {z z' : Zc} {xs ys : List α} {cs ds : List Value} {x : α} {v : Value}
theorem Els.mono (hz : z ≤ z') (h : Els d z xs cs) : Els d z' xs cs := by
  induction xs generalizing cs with
  | nil => exact h
  | cons x xs ih => obtain ⟨c, r, rfl, h1, h2⟩ := h; exact ⟨c, r, rfl, d.mono hz h1, ih h2⟩
theorem Els.length (h : Els d z xs cs) : cs.length = xs.length * d.sz := by
  induction xs generalizing cs with
  | nil => rw [show cs = [] from h]; simp
  | cons x xs ih =>
    obtain ⟨c, r, rfl, h1, h2⟩ := h
    rw [List.length_append, d.len h1, ih h2, List.length_cons, Nat.succ_mul]; omega
theorem Els.one (h : Els d z xs cs) : ∀ u ∈ cs, u.oneCell' = true := by
  induction xs generalizing cs with
  | nil => rw [show cs = [] from h]; simp
  | cons x xs ih =>
    obtain ⟨c, r, rfl, h1, h2⟩ := h
    intro u hu
    rcases List.mem_append.mp hu with hu | hu
    · exact d.one h1 u hu
    · exact ih h2 u hu
theorem Els.append (h : Els d z xs cs) (k : Els d z ys ds) : Els d z (xs ++ ys) (cs ++ ds) := by
  induction xs generalizing cs with
  | nil => rw [show cs = [] from h]; exact k
  | cons x xs ih => obtain ⟨c, r, rfl, h1, h2⟩ := h; exact ⟨c, r ++ ds, by simp, h1, ih h2⟩
theorem Els.single (h : d.K z x cs) : Els d z [x] cs := ⟨cs, [], by simp, h, rfl⟩
theorem Els.drop (h : Els d z xs cs) (k : Nat) : Els d z (xs.drop k) (cs.drop (k * d.sz)) := by
  induction k generalizing xs cs with
  | zero => simpa using h
  | succ k ih =>
    cases xs with
    | nil => rw [show cs = [] from h]; simp [Els]
    | cons x xs =>
      obtain ⟨c, r, rfl, h1, h2⟩ := h
      have := ih h2
      rw [List.drop_succ_cons, Nat.succ_mul, Nat.add_comm, ← List.drop_drop, ← d.len h1, List.drop_left]
      rw [d.len h1]; exact this
theorem Els.take (h : Els d z xs cs) (k : Nat) : Els d z (xs.take k) (cs.take (k * d.sz)) := by
  induction k generalizing xs cs with
  | zero => simp [Els]
  | succ k ih =>
    cases xs with
    | nil => rw [show cs = [] from h]; simp [Els]
    | cons x xs =>
      obtain ⟨c, r, rfl, h1, h2⟩ := h
      have hl := d.len h1
      rw [List.take_succ_cons]
      refine ⟨c, r.take (k * d.sz), ?_, h1, ih h2⟩
      rw [List.take_append, List.take_of_length_le (by rw [Nat.succ_mul]; omega), hl, show (k + 1) * d.sz - d.sz = k * d.sz by rw [Nat.succ_mul]; omega]
theorem Els.get (h : Els d z xs cs) {k : Nat} (hk : xs[k]? = some x) : ∃ c, d.K z x c ∧ ∀ i u, c[i]? = some u → cs[k * d.sz + i]? = some u := by
  induction xs generalizing cs k with
  | nil => simp at hk
  | cons y xs ih =>
    obtain ⟨c, r, rfl, h1, h2⟩ := h
    have hl := d.len h1
    cases k with
    | zero =>
      simp only [List.getElem?_cons_zero, Option.some.injEq] at hk
      subst hk
      refine ⟨c, h1, fun i u hu => ?_⟩
      rw [Nat.zero_mul, Nat.zero_add, List.getElem?_append_left (List.getElem?_eq_some_iff.mp hu).1]; exact hu
    | succ k =>
      obtain ⟨c', k1, k2⟩ := ih h2 (k := k) (by simpa using hk)
      refine ⟨c', k1, fun i u hu => ?_⟩
      rw [Nat.succ_mul, List.getElem?_append_right (by omega), show k * d.sz + d.sz + i - c.length = k * d.sz + i by omega]
      exact k2 i u hu
theorem Els.split (h : Els d z (xs ++ ys) cs) : ∃ c1 c2, cs = c1 ++ c2 ∧ Els d z xs c1 ∧ Els d z ys c2 := by
  induction xs generalizing cs with
  | nil => exact ⟨[], cs, rfl, rfl, h⟩
  | cons x xs ih =>
    obtain ⟨c, r, rfl, h1, h2⟩ := h
    obtain ⟨c1, c2, rfl, h3, h4⟩ := ih h2
    exact ⟨c ++ c1, c2, by simp, ⟨c, c1, rfl, h1, h3⟩, h4⟩
theorem Sl.mono (hz : z ≤ z') (h : Sl d z xs v) : Sl d z' xs v := by
  obtain ⟨A, c, cs, rfl, hc, he, hr⟩ := h
  exact ⟨A, c, cs, rfl, hc, he.mono hz, hr.mono hz⟩
theorem Sl.nil (z : Zc) (A : Option Addr) (c : Nat) : Sl d z [] (.slice A 0 c) := ⟨A, c, [], rfl, Nat.zero_le _, rfl, RdAt.nil _ _ _⟩
theorem Sl.one (h : Sl d z xs v) : v.oneCell' = true := by obtain ⟨A, c, cs, rfl, _⟩ := h; rfl
theorem RdAt.isAt {A : Option Addr} {o : Nat} {vs : List Value} (h : RdAt z A o vs) (hn : 0 < vs.length) : IsAt A := by
  obtain ⟨b, o', e, _⟩ := h (by intro e; rw [e] at hn; simp at hn); exact ⟨b, o', e⟩
/-- What a load at a place of a slice finds. -/
theorem Els.at {A : Option Addr} (h : Els d z xs cs) (hr : RdAt z A 0 cs) {k : Nat} (hk : xs[k]? = some x) : ∃ c, d.K z x c ∧ RdAt z A (k * d.sz) c := by
  obtain ⟨c, h1, h2⟩ := h.get hk
  refine ⟨c, h1, ?_⟩
  have := hr.sub (k * d.sz) c h2
  rwa [Nat.zero_add] at this
theorem Els.isAt {A : Option Addr} (h : Els d z xs cs) (hr : RdAt z A 0 cs) (hs : 0 < d.sz) {k : Nat} (hk : k < xs.length) : IsAt A :=
  hr.isAt (by rw [h.length]; exact Nat.mul_pos (by omega) hs)
/-- xs[l:]. -/
theorem RdAt.cut {A : Option Addr} {c l sz : Nat} (hr : RdAt z A 0 cs) (hl : cs.length ≤ c * sz) : RdAt z (cutA A c l sz) 0 (cs.drop (l * sz)) := fun hn => by
  unfold cutA
  split
  · rename_i e
    subst e
    exact absurd (List.drop_eq_nil_of_le hl) hn
  · obtain ⟨b, o', e, hb, hc⟩ := hr (by intro e; subst e; simp at hn)
    subst e
    refine ⟨b, o' + l * sz, by simp [add_at], hb, fun i u hu => ?_⟩
    rw [List.getElem?_drop] at hu
    have := hc _ u hu
    rw [show o' + l * sz + 0 + i = o' + 0 + (l * sz + i) by omega]; exact this
theorem RdAt.take {A : Option Addr} {o : Nat} (hr : RdAt z A o cs) (n : Nat) : RdAt z A o (cs.take n) := by
  have := hr.sub 0 (cs.take n) (fun i u hu => by
    have hi := (List.getElem?_eq_some_iff.1 hu).1
    simp at hi
    rw [List.getElem?_take_of_lt (by omega)] at hu
    rwa [Nat.zero_add])
  simpa using this
end
theorem RdAt.cell {z : Zc} {A : Option Addr} {o : Nat} {cs : List Value} (h : RdAt z A o cs) (k : Nat) {u : Value} (hk : cs[k]? = some u) : RdAt z A (o + k) [u] :=
  h.sub k [u] fun i x hx => by
    cases i with
    | zero => simp at hx; subst hx; exact hk
    | succ i => simp at hx
theorem Sl.take {α : Type} {d : Rep α} {z : Zc} {xs : List α} {A : Option Addr} {n c : Nat} (h : Sl d z xs (.slice A n c)) {k c' : Nat} (hk : k ≤ xs.length) (hc' : k ≤ c') : Sl d z (xs.take k) (.slice A k c') := by
  obtain ⟨A', c1, cs, e, hc, he, hr⟩ := h
  injection e with e1 e2 e3
  subst e1; subst e3
  refine ⟨A, c', cs.take (k * d.sz), ?_, ?_, he.take k, hr.take _⟩
  · rw [List.length_take, Nat.min_eq_left hk]
  · rw [List.length_take]; omega
theorem Sl.drop {α : Type} {d : Rep α} {z : Zc} {xs : List α} {A : Option Addr} {n c : Nat} (h : Sl d z xs (.slice A n c)) {k : Nat} : Sl d z (xs.drop k) (.slice (cutA A c k d.sz) (n - k) (c - k)) := by
  obtain ⟨A', c1, cs, e, hc, he, hr⟩ := h
  injection e with e1 e2 e3
  subst e1; subst e3; subst e2
  refine ⟨_, _, cs.drop (k * d.sz), by rw [List.length_drop], by rw [List.length_drop]; omega, he.drop k, hr.cut ?_⟩
  rw [he.length]; exact Nat.mul_le_mul_right _ hc
/-- Bytes. -/
def bRep : Rep Int where
  sz := 1
  K := fun _ x cs => cs = [.int .u8 x] ∧ 0 ≤ x ∧ x ≤ 255
  len := by rintro z x cs ⟨rfl, _⟩; rfl
  one := by rintro z x cs ⟨rfl, _⟩ u hu; rw [List.mem_singleton.mp hu]; rfl
  mono := fun _ h => h
abbrev bc (l : List Int) : List Value := l.map (Value.int .u8)
theorem Els.bytes {z : Zc} {l : List Int} {cs : List Value} (h : Els bRep z l cs) : cs = bc l ∧ Bys l := by
  induction l generalizing cs with
  | nil => rw [show cs = [] from h]; exact ⟨rfl, fun x hx => by cases hx⟩
  | cons x l ih =>
    obtain ⟨c, r, rfl, ⟨rfl, hx⟩, h2⟩ := h
    obtain ⟨rfl, k⟩ := ih h2
    exact ⟨rfl, fun y hy => by rcases List.mem_cons.mp hy with rfl | hy; exact hx; exact k y hy⟩
theorem Els.of_bytes {z : Zc} {l : List Int} (h : Bys l) : Els bRep z l (bc l) := by
  induction l with
  | nil => rfl
  | cons x l ih => exact ⟨[.int .u8 x], _, rfl, ⟨rfl, h x List.mem_cons_self⟩, ih (fun y hy => h y (List.mem_cons_of_mem _ hy))⟩
abbrev By (z : Zc) (l : List Int) (v : Value) : Prop := Sl bRep z l v
theorem By.form {z : Zc} {l : List Int} {v : Value} (h : By z l v) : ∃ A c, v = .slice A l.length c ∧ l.length ≤ c ∧ Bys l ∧ RdAt z A 0 (bc l) := by
  obtain ⟨A, c, cs, rfl, hc, he, hr⟩ := h
  obtain ⟨rfl, hb⟩ := he.bytes
  exact ⟨A, c, rfl, hc, hb, hr⟩
theorem By.mk {z : Zc} {l : List Int} {A : Option Addr} {c : Nat} (hc : l.length ≤ c) (hb : Bys l) (hr : RdAt z A 0 (bc l)) : By z l (.slice A l.length c) := ⟨A, c, _, rfl, hc, Els.of_bytes hb, hr⟩
theorem By.bys {z : Zc} {l : List Int} {v : Value} (h : By z l v) : Bys l := by obtain ⟨_, _, _, _, h, _⟩ := h.form; exact h
/-- A slice as an element. -/
def Rep.slice {α : Type} (d : Rep α) : Rep (List α) where
  sz := 1
  K := fun z xs cs => ∃ v, cs = [v] ∧ Sl d z xs v
  len := by rintro z x cs ⟨v, rfl, _⟩; rfl
  one := by rintro z x cs ⟨v, rfl, h⟩ u hu; rw [List.mem_singleton.mp hu]; exact h.one
  mono := by rintro z z' x cs hz ⟨v, rfl, h⟩; exact ⟨v, rfl, h.mono hz⟩
abbrev sduRep : Rep (List Int) := bRep.slice
/-- Pieces. -/
def pRep : Rep Part where
  sz := 3
  K := fun z p cs => ∃ v, cs = [.int .i64 p.seg, .int .i64 p.len, v] ∧ By z p.data v
  len := by rintro z x cs ⟨v, rfl, _⟩; rfl
  one := by rintro z x cs ⟨v, rfl, h⟩ u hu; simp at hu; rcases hu with rfl | rfl | rfl; rfl; rfl; exact h.one
  mono := by rintro z z' x cs hz ⟨v, rfl, h⟩; exact ⟨v, rfl, Sl.mono hz h⟩
/-- Frames on their way. -/
def mRep : Rep Msg where
  sz := 2
  K := fun z m cs => ∃ v, cs = [.bool m.bent, v] ∧ By z m.bytes v
  len := by rintro z x cs ⟨v, rfl, _⟩; rfl
  one := by rintro z x cs ⟨v, rfl, h⟩ u hu; simp at hu; rcases hu with rfl | rfl; rfl; exact h.one
  mono := by rintro z z' x cs hz ⟨v, rfl, h⟩; exact ⟨v, rfl, Sl.mono hz h⟩
abbrev vCfg (c : Cfg) : Value := .agg #[.int .i64 c.mode, .int .i64 c.win, .int .i64 c.mps, .int .i64 c.mtu, .int .i64 c.tri]
abbrev vPart (p : Part) (v : Value) : Value := .agg #[.int .i64 p.seg, .int .i64 p.len, v]
abbrev vFrm (f : Frm) (v : Value) : Value := .agg #[.int .i64 f.kind, .int .i64 f.seq, .int .i64 f.ack, .bool f.poll, .bool f.fin, .int .i64 f.say, .int .i64 f.seg, .int .i64 f.len, v]
abbrev vJoin (j : Join) (v : Value) : Value := .agg #[.int .i64 j.len, v]
abbrev vCRx (r : CRx) (v : Value) : Value := .agg #[.int .i64 r.out, .int .i64 r.join.len, v, .bool r.dead]
abbrev vCTx (t : CTx) (v : Value) : Value := .agg #[.int .i64 t.hav, v, .int .i64 t.granted, .int .i64 t.sent, .bool t.dead]
abbrev vRx (r : Rx) (v : Value) : Value := .agg #[.int .i64 r.expect, .int .i64 r.count, .int .i64 r.join.len, v, .bool r.again, .bool r.busy, .bool r.dead]
abbrev vTx (t : Tx) (v u : Value) : Value := .agg #[.int .i64 t.next, .int .i64 t.acked, v, .int .i64 t.sent, u, .bool t.asks, .int .i64 t.tries, .bool t.held, .int .i64 t.count, .bool t.dead]
end Go.Proofs.YtpjaidjnamngaaaGreat
namespace Go.Proofs.YtpjaidjnamngaaaGreat
set_option linter.unusedVariables false
set_option linter.unusedSimpArgs false
open Go.RowKit
section
variable {P : Program} {s : St} {K : St → Prop}
theorem appM_emptyO (k : Nat) {t e sz : Nat} {x y : Operand} {d : Option Nat} (ht : AppTy P t e sz) (hk : look k s.L = none) (hx : (∃ A0, ev s.t x = .c (.v (.slice A0 0 0))) ∨ ∃ j o, ev s.t x = .c (.s j o 0 0))
    {A : Option Addr} {m c : Nat} {news : List Value} (hy : ev s.t y = .c (.v (.slice A m c))) (hr : RdAt s.z A 0 news) (hl : news.length = m * sz) (h1 : ∀ u ∈ news, u.oneCell' = true) (hb : m ≤ 1000000000) (hm : 0 < m)
    (hK : ∀ A c, m ≤ c → K ⟨stO s.t d (.c (.v (.slice A m c))), (k, .own (rowA e sz (.slice A m c) m news)) :: s.L, s.z, s.n⟩) : appM P t x y d s K := fun o ho hd C ρ a w Q h => by
  subst hd
  obtain ⟨A0, hxv⟩ : ∃ A0, a.eval x = .slice A0 0 0 := by
    have hxd := ev_den h.fr x
    rcases hx with ⟨A0, hx⟩ | ⟨j, o', hx⟩
    · rw [hx] at hxd; exact ⟨A0, hxd⟩
    · rw [hx] at hxd; obtain ⟨b, _, hb2⟩ := hxd; exact ⟨_, hb2⟩
  have hyv : a.eval y = .slice A m c := by have := ev_den h.fr y; rw [hy] at this; exact this
  have hr' := hr.rd h.mem
  obtain ⟨i, z0, i1, i2, i3, i4, i5⟩ := ht.inf
  have hne : news ≠ [] := by
    intro e'; subst e'; simp only [List.length_nil] at hl
    rcases Nat.mul_eq_zero.1 hl.symm with h' | h'
    · omega
    · have := ht.pos; omega
  obtain ⟨b, ob, rfl, hc⟩ := hr' hne
  obtain ⟨F, f1, f2⟩ := h.mem
  have hrun : ∃ v' w', (Builtin.append_ #[t, t] o.type #[a.eval x, a.eval y]).run P w = .ok v' w' ∧ Row w' e sz v' m news ∧ w.grownBy w' none ∧ ∀ g, v'.ownBlock = some g → w.heap.size ≤ g := by
    rw [hxv, hyv]
    cases A0 with
    | none =>
      obtain ⟨v', w', k1, k2, k3, _, k5⟩ := run_append_own_at (P := P) w w.heap.size t o.type e i z0 sz i.bytes ht.und i1 i2 i3 rfl i5 ht.pos (.slice none 0 0) 0 [] (World.ownsRow_nil w _ e sz) ⟨b, ob, none⟩ m c news hl (fun j u hu => by rw [add_at]; exact hc j u hu) h1 (by simp only [maxLen]; omega) (by have := Nat.mul_le_mul hb i4; rw [Nat.zero_add]; omega) (Nat.le_refl _)
      have k2' := Row.of_own k2
      rw [List.nil_append, Nat.zero_add] at k2'
      refine ⟨v', w', k1, k2', k3, fun g hg => ?_⟩
      rcases k5 with e' | e'
      · rw [e'] at hg; cases hg
      · rw [e'] at hg; injection hg with hg; omega
    | some a0 =>
      obtain ⟨v', w', k1, k2, k3⟩ := run_append_arg_grows (P := P) w t o.type e i z0 sz i.bytes ht.und i1 i2 i3 rfl i5 ht.pos a0 0 0 [] (by simp) (fun j u hu => by simp at hu) ⟨b, ob, none⟩ m c news hl (fun j u hu => by rw [add_at]; exact hc j u hu) (by omega) (by simp only [maxLen]; omega) (by have := Nat.mul_le_mul hb i4; rw [Nat.zero_add]; omega)
      have k2' := Row.of_own k2
      rw [List.nil_append, Nat.zero_add] at k2'
      refine ⟨v', w', k1, k2', k3, fun g hg => ?_⟩
      rcases k2.2 with ⟨e', _⟩ | ⟨g', cap, cur, e', hg', _⟩
      · rw [e'] at hg; cases hg
      · rw [e'] at hg; simp [Value.ownBlock] at hg; omega
  obtain ⟨v', w', hrun, r1, r2, r3⟩ := hrun
  have hW : WOk ⟨w, fun _ => False, s.z⟩ s.z (fun b => v'.ownBlock = some b) w' := by
    refine ⟨r2.os, r2.tape, r2.output, r2.size, Nat.le_trans f2.zsize r2.size, fun b hb => ?_, fun b hb hz => ?_, fun b hb hf => ?_, fun b hb => ?_, fun b hb => .inl hb, Zc.rfl' _⟩
    · exact (r2.block b (Nat.lt_of_lt_of_le hb.2 f2.zsize) (fun e => by cases e)).trans (f2.frz b hb)
    · have := r3 b hb; have := Nat.lt_of_lt_of_le hz.2 f2.zsize; omega
    · exact r2.block b hb (fun e => by cases e)
    · exact .inr (r3 b hb)
  obtain ⟨hS, hP⟩ := own_after (d := o.dst) (k := k) (sv := .c (.v v')) (v := v') (A := emp) (A' := rowA e sz v' m news) (L := s.L) (F1 := fun _ => False) (F2 := F) h f1 f2 (fun _ h => h) f1 (fun _ h => h.elim) (fun b => by simp)
    (fun _ _ _ h => h) (fun e cs => by rw [hk]; simp) ⟨r1, fun _ => Iff.rfl⟩ hW rfl
  obtain ⟨A', c', e1, e2, _⟩ := r1.rd
  subst e1
  exact wp_value (run_app ho hrun) ⟨_, ρ, hK A' c' e2, hS, hP⟩
/-- append of nothing. -/
theorem appM_zero {t e sz : Nat} {x y : Operand} {d : Option Nat} (ht : AppTy P t e sz) (hx : (∃ A0 n0 c0, n0 ≤ c0 ∧ ev s.t x = .c (.v (.slice A0 n0 c0))) ∨ ∃ j o, ev s.t x = .c (.s j o 0 0))
    {A : Option Addr} {c : Nat} (hy : ev s.t y = .c (.v (.slice A 0 c))) (hK : K ⟨stO s.t d (ev s.t x), s.L, s.z, s.n⟩) : appM P t x y d s K := fun o ho hd C ρ a w Q h => by
  subst hd
  obtain ⟨i, z0, i1, i2, i3, i4, i5⟩ := ht.inf
  have hyv : a.eval y = .slice A 0 c := by have := ev_den h.fr y; rw [hy] at this; exact this
  have hxd := ev_den h.fr x
  obtain ⟨A0, n0, c0, hn, hxv⟩ : ∃ A0 n0 c0, n0 ≤ c0 ∧ a.eval x = .slice A0 n0 c0 := by
    rcases hx with ⟨A0, n0, c0, hn, hx⟩ | ⟨j, o', hx⟩
    · rw [hx] at hxd; exact ⟨A0, n0, c0, hn, hxd⟩
    · rw [hx] at hxd; obtain ⟨b, _, hb2⟩ := hxd; exact ⟨_, _, _, Nat.le_refl _, hb2⟩
  refine wp_value (run_app ho (by rw [hxv, hyv]; exact run_append_zero t _ e i ht.und i1 w A0 A n0 c0 c hn)) ⟨_, ρ, hK, h.put o.dst ?_, Stp.same⟩
  rw [← hxv]
  exact hxd
end
/-! Functions that own, entered. -/
theorem spec_enter0 {P : Program} {f : FuncId} {fn : Func} {ic : IC} {fr : List FR} {pl : List FuncId} {args : List Value} {m : Nat} {z : Zc} {R : Value → Zc → Asrt → Prop}
    (hf : P.funcs[f]? = some fn) (hc : fn.body.bind (trC P pl) = some ic) (hr : fres P fn.results.toList = some fr) (hn : fn.ntmps = m)
    (hv : vcI P ic ⟨args.map ofV ++ List.replicate (m - args.length) unS, [], z, 0⟩ (postK fr R)) : Spec P f args z emp R :=
  spec_enter hf hc hr hn fun C ρ a w hs => ⟨_, ρ, hv, hs.df, hs.fr, hs.nm, hs.mem.drop⟩
theorem spec_enter1 {P : Program} {f : FuncId} {fn : Func} {ic : IC} {fr : List FR} {pl : List FuncId} {args : List Value} {m : Nat} {z : Zc} {A : Asrt} {R : Value → Zc → Asrt → Prop}
    (hf : P.funcs[f]? = some fn) (hc : fn.body.bind (trC P pl) = some ic) (hr : fres P fn.results.toList = some fr) (hn : fn.ntmps = m)
    (hv : vcI P ic ⟨args.map ofV ++ List.replicate (m - args.length) unS, [(1000, .own A)], z, 0⟩ (postK fr R)) : Spec P f args z A R :=
  spec_enter hf hc hr hn fun C ρ a w hs => ⟨_, ρ, hv, hs⟩
theorem spec_enterL {P : Program} {f : FuncId} {fn : Func} {ic : IC} {fr : List FR} {pl : List FuncId} {args : List Value} {m : Nat} {z : Zc} {As : List Asrt} {R : Value → Zc → Asrt → Prop} (ks : List Nat)
    (hf : P.funcs[f]? = some fn) (hc : fn.body.bind (trC P pl) = some ic) (hr : fres P fn.results.toList = some fr) (hn : fn.ntmps = m) (hl : ks.length = As.length)
    (hv : vcI P ic ⟨args.map ofV ++ List.replicate (m - args.length) unS, zipL ks As [], z, 0⟩ (postK fr R)) : Spec P f args z (starL As) R :=
  spec_enter hf hc hr hn fun C ρ a w hs => ⟨_, ρ, hv, (Tf.open' (s := ⟨args.map ofV ++ List.replicate (m - args.length) unS, [(1000, .own (starL As))], z, 0⟩) 1000 ks rfl hl (by simp [del, look])).sat hs⟩
/-- What a function hands on as its own, stays. -/
theorem Spec.frz {P : Program} {f : FuncId} {args : List Value} {z : Zc} {e sz : Nat} {A0 : Asrt} {R : Value → Zc → Asrt → Prop} {R' : Value → Zc → Prop} (h : Spec P f args z A0 R)
    (hR : ∀ v z' A', z ≤ z' → R v z' A' → ∃ u n cs, A' = rowA e sz u n cs ∧ ∀ A c z'', u = .slice A n c → n ≤ c → z' ≤ z'' → RdAt z'' A 0 cs → R' v z'') : Spec P f args z A0 fun v z' A' => A' = emp ∧ R' v z' := fun w F hw hA => by
  refine (h w F hw hA).mono ?_
  rintro e' w' ⟨v, z', A', F', rfl, h2, h3, h4⟩
  obtain ⟨u, n, cs, rfl, hk⟩ := hR v z' A' h4.zle h2
  obtain ⟨A, c, z'', k1, k2, k3, k4, ⟨F'', k5, k6⟩⟩ := Mem.freezeRow (C := ⟨w, F, z⟩) (ρ := []) (z := z') (L := [(0, .own (rowA e sz u n cs))]) (w := w') (k := 0) ⟨F', ⟨F', fun _ => False, h3, fun _ h => h, fun _ _ h => h, fun b => by simp⟩, h4⟩ rfl
  exact ⟨v, z'', emp, fun _ => False, rfl, ⟨rfl, hk A c z'' k1 k2 k3 k4⟩, fun _ h => h, k6.less fun _ h => h.elim⟩
end Go.Proofs.YtpjaidjnamngaaaGreat
namespace Go.Proofs.YtpjaidjnamngaaaGreat
set_option linter.unusedVariables false
set_option linter.unusedSimpArgs false
open Go.RowKit
def ptrA (e b : Nat) (vs : List Value) : Asrt where
  holds w F := w.heap[b]? = some (.cells vs.toArray e (0, 0)) ∧ ∀ x, F x ↔ x = b
  loc := fun h k => ⟨(k b ((h.2 b).2 rfl)).trans h.1, h.2⟩
  dom := fun h hb => by rw [(h.2 _).1 hb]; exact lt_of_heap h.1
def unV (j b : Nat) : SV → SV
  | .c (.f (some ⟨b', 0, none⟩) o) => if b' = b then .c (.p j o) else .c (.f (some ⟨b', 0, none⟩) o)
  | x => x
theorem unV_den {ρ : Nm} {j b : Nat} (hb : ρ[j]? = some b) (x : SV) (u : Value) (h : x.den ρ u) : (unV j b x).den ρ u := by
  unfold unV
  split
  · rename_i b' o
    split
    · rename_i e
      subst e
      obtain ⟨b0, o', e1, rfl⟩ := h
      injection e1 with e1
      injection e1 with e1 e2
      subst e1
      subst e2
      exact ⟨_, hb, by rw [Nat.zero_add]⟩
    · exact h
  · exact h
def vals (vs : List Value) : List SC := vs.map .v
theorem vals_den {ρ : Nm} : ∀ (vs : List Value), DL (SC.den ρ) (vals vs) vs
  | [] => trivial
  | v :: vs => ⟨rfl, vals_den vs⟩
section
variable {P : Program} {s : St} {K : St → Prop} {d : Option Nat}
def giveSt (s : St) (k j m b e : Nat) (vs : List Value) : St := ⟨s.t.map (subV j b), (k, .own (ptrA e b vs)) :: (m, .link j b) :: subL j b (del j s.L), s.z, s.n⟩
theorem Sat.give {C : Ctx} {ρ : Nm} {a : Act} {w : World} (k j m : Nat) {e : Nat} {cs : List SC} {vs : List Value} (hk : look j s.L = some (.cells e cs)) (hv : allV cs = some vs) (hs : Sat C ρ s a w) :
    ∃ b, ρ[j]? = some b ∧ Sat C ρ (giveSt s k j m b e vs) a w := by
  obtain ⟨F, hh, hw⟩ := hs.mem
  obtain ⟨F1, F2, ⟨b, us, a1, a2, a3, a4⟩, k2, kd, kF⟩ := hh.pick hk
  have hus := allV_den hv a2
  subst hus
  exact ⟨b, a1, hs.df, hs.fr.map_left (subV_den a1), hs.nm, F, ⟨F1, F2, ⟨a3, a4⟩, ⟨fun _ => False, F2, ⟨a1, fun _ h => h⟩, subL_holds a1 k2, fun _ h => h.elim, fun x => by simp⟩, kd, kF⟩, hw⟩
theorem opT.give {o : Oper} (k j m : Nat) {e : Nat} {cs : List SC} {vs : List Value} (hk : look j s.L = some (.cells e cs)) (hv : allV cs = some vs) (h : ∀ b, opT P o (giveSt s k j m b e vs) K) : opT P o s K := fun C ρ a w Q hs => by
  obtain ⟨b, _, hs'⟩ := hs.give k j m hk hv
  exact h b C ρ a w Q hs'
theorem callT.give {f : FuncId} {args : List Operand} (k j m : Nat) {e : Nat} {cs : List SC} {vs : List Value} (hk : look j s.L = some (.cells e cs)) (hv : allV cs = some vs) (h : ∀ b, callT P f args d (giveSt s k j m b e vs) K) : callT P f args d s K := fun o h1 h2 => opT.give k j m hk hv fun b => h b o h1 h2
theorem FinV.give {fr : List FR} {R : Value → Zc → Asrt → Prop} (k j m l : Nat) {e b : Nat} {cs : List SC} {vs : List Value} (hk : look j s.L = some (.cells e cs)) (hv : allV cs = some vs) (hl : look l s.L = some (.link j b)) (h : FinV fr (giveSt s k j m b e vs) R) : FinV fr s R := fun C ρ a w hs => by
  obtain ⟨b', h1, hs'⟩ := hs.give k j m hk hv
  obtain ⟨F, hh, hw⟩ := hs.mem
  obtain ⟨F1, F2, ⟨h2, _⟩, _⟩ := hh.pick hl
  rw [h1] at h2
  injection h2 with h2
  subst h2
  exact h C ρ a w hs'
/-- Back again: what was lent has its name. -/
def takeSt (s : St) (k j b e : Nat) (vs : List Value) : St := ⟨s.t.map (unV j b), (j, .cells e (vals vs)) :: del k s.L, s.z, s.n⟩
theorem Tf.take (k j m : Nat) {e b : Nat} {vs : List Value} (hk : look k s.L = some (.own (ptrA e b vs))) (hm : look m s.L = some (.link j b)) (hj : look j (del k s.L) = none) {C : Ctx} {ρ : Nm} {a : Act} {w : World} (hs : Sat C ρ s a w) : Sat C ρ (takeSt s k j b e vs) a w := by
  obtain ⟨F, hh, hw⟩ := hs.mem
  obtain ⟨G1, G2, ⟨h2, _⟩, _⟩ := hh.pick hm
  obtain ⟨F1, F2, ⟨a3, a4⟩, k2, kd, kF⟩ := hh.pick hk
  exact ⟨hs.df, hs.fr.map_left (unV_den h2), hs.nm, F, ⟨F1, F2, ⟨b, vs, h2, vals_den vs, a3, a4⟩, k2, kd, kF⟩, hw⟩
theorem vsI.take {ic : IC} {K : Exit → St → Prop} (k j m : Nat) {e b : Nat} {vs : List Value} (hk : look k s.L = some (.own (ptrA e b vs))) (hm : look m s.L = some (.link j b)) (hj : look j (del k s.L) = none) (h : vsI P ic K (takeSt s k j b e vs)) : vsI P ic K s := fun C ρ a w hs => h C ρ a w (Tf.take k j m hk hm hj hs)
theorem FinV.take {fr : List FR} {R : Value → Zc → Asrt → Prop} (k j m : Nat) {e b : Nat} {vs : List Value} (hk : look k s.L = some (.own (ptrA e b vs))) (hm : look m s.L = some (.link j b)) (hj : look j (del k s.L) = none) (h : FinV fr (takeSt s k j b e vs) R) : FinV fr s R := fun C ρ a w hs => h C ρ a w (Tf.take k j m hk hm hj hs)
end
theorem spec_enterP {P : Program} {f : FuncId} {fn : Func} {ic : IC} {fr : List FR} {pl : List FuncId} {b e : Nat} {vs : List Value} {args : List Value} {m : Nat} {z : Zc} {As : List Asrt} {R : Value → Zc → Asrt → Prop} (ks : List Nat)
    (hf : P.funcs[f]? = some fn) (hc : fn.body.bind (trC P pl) = some ic) (hr : fres P fn.results.toList = some fr) (hn : fn.ntmps = m) (hl : ks.length = As.length)
    (hv : vcI P ic ⟨.c (.p 0 0) :: (args.map ofV ++ List.replicate (m - (args.length + 1)) unS), (0, .cells e (vals vs)) :: (2000, .link 0 b) :: zipL ks As [], z, 1⟩ (postK fr R)) : Spec P f (.pointer (some ⟨b, 0, none⟩) :: args) z (starL (ptrA e b vs :: As)) R :=
  spec_enter hf hc hr hn fun C ρ a w hs => by
    have hρ : ρ = [] := List.eq_nil_of_length_eq_zero hs.nm
    subst hρ
    refine ⟨_, [b], hv, hs.df, ?_, rfl, ?_⟩
    · have hfr := hs.fr
      generalize a.tmps.toList = ts at hfr
      cases ts with
      | nil => exact hfr.elim
      | cons t ts =>
        obtain ⟨h1, h2⟩ := hfr
        refine ⟨⟨b, rfl, h1⟩, ?_⟩
        exact DL.mono (fun _ _ => SV.den.ext (List.nil_prefix)) h2
    · obtain ⟨F, ⟨F1, F2, ⟨G1, G2, ⟨g1, g2⟩, g3, gd, gF⟩, hE, kd, kF⟩, hw⟩ := hs.mem
      have hop : Holds [] w (zipL ks As []) G2 := by
        have := Holds.open' (ρ := []) (w := w) (k := 1000) (ks := ks) (L := []) (As := As) (F := G2) hl ⟨G2, fun _ => False, g3, fun _ h => h, fun _ _ h => h, fun b => by simp⟩
        exact this
      refine ⟨F, ⟨G1, G2, ⟨b, vs, rfl, vals_den vs, g1, g2⟩, ⟨fun _ => False, G2, ⟨rfl, fun _ h => h⟩, hop.ext List.nil_prefix, fun _ h => h.elim, fun x => by simp⟩, gd, fun x => ?_⟩, hw⟩
      rw [kF x, gF x]
      have := hE x
      simp [this]
end Go.Proofs.YtpjaidjnamngaaaGreat
namespace Go.Proofs.YtpjaidjnamngaaaGreat
set_option linter.unusedVariables false
set_option linter.unusedSimpArgs false
open Go.RowKit
section
variable {P : Program} {s : St} {K : St → Prop}
theorem opM.sat {o : Oper} {K' : St → Prop} (h : opM P o s K') (hk : ∀ s', K' s' → ∀ C ρ a w, Sat C ρ s' a w → K s') : opM P o s K := fun C ρ a w Q hs =>
  Oper.wp_mono (fun a' w' ⟨s', ρ', h1, h2, h3⟩ => ⟨s', ρ', hk s' h1 _ _ _ _ h2, h2, h3⟩) (h C ρ a w Q hs)
theorem Sat.formR {C : Ctx} {ρ : Nm} {a : Act} {w : World} (k : Nat) {e sz n : Nat} {v : Value} {cs : List Value} (hk : look k s.L = some (.own (rowA e sz v n cs))) (hs : Sat C ρ s a w) : ∃ A c, v = .slice A n c ∧ n ≤ c ∧ (0 < n → IsAt A) := by
  obtain ⟨F, hh, hw⟩ := hs.mem
  obtain ⟨F1, F2, ⟨hrow, _⟩, _⟩ := hh.pick hk
  rcases hrow.2 with ⟨e1, e0⟩ | ⟨g, o, cap, cur, e1, _, e2, _⟩
  · subst e0; exact ⟨none, 0, e1, Nat.le_refl _, fun h => absurd h (Nat.lt_irrefl _)⟩
  · exact ⟨_, _, e1, e2, fun _ => ⟨g, o, rfl⟩⟩
theorem appM_rowF (k : Nat) {t e sz : Nat} {x y : Operand} {d : Option Nat} (ht : AppTy P t e sz) {v : Value} {n : Nat} {cs : List Value} (hk : look k s.L = some (.own (rowA e sz v n cs))) (hk' : look k (del k s.L) = none) (hx : ev s.t x = .c (.v v))
    {A : Option Addr} {m c : Nat} {news : List Value} (hy : ev s.t y = .c (.v (.slice A m c))) (hr : RdAt s.z A 0 news) (hl : news.length = m * sz) (h1 : ∀ u ∈ news, u.oneCell' = true) (hb : n + m ≤ 1000000000)
    (hK : ∀ A' c', n + m ≤ c' → K ⟨stO s.t d (.c (.v (.slice A' (n + m) c'))), (k, .own (rowA e sz (.slice A' (n + m) c') (n + m) (cs ++ news))) :: del k s.L, s.z, s.n⟩) : appM P t x y d s K := fun o ho hd =>
  opM.sat (appM_row (K := fun s' => ∃ v', s' = ⟨stO s.t d (.c (.v v')), (k, .own (rowA e sz v' (n + m) (cs ++ news))) :: del k s.L, s.z, s.n⟩) k ht hk hk' hx hy hr hl h1 hb (fun v' => ⟨v', rfl⟩) o ho hd) fun s' ⟨v', e'⟩ C ρ a w hs => by
    subst e'
    obtain ⟨A', c', e1, e2, _⟩ := hs.formR k (by show (if k = k then _ else _) = _; rw [if_pos rfl])
    subst e1
    exact hK A' c' e2
theorem appM_newF (k : Nat) {t e sz : Nat} {x y : Operand} {d : Option Nat} (ht : AppTy P t e sz) {v : Value} {n : Nat} {cs : List Value} (hk : look k s.L = some (.own (rowA e sz v n cs))) (hk' : look k (del k s.L) = none) (hx : ev s.t x = .c (.v v))
    {j m c e' : Nat} {cj : List SC} {news : List Value} (hy : ev s.t y = .c (.s j 0 m c)) (hj : look j s.L = some (.cells e' cj)) (hcj : allV cj = some news) (hl : news.length = m * sz) (h1 : ∀ u ∈ news, u.oneCell' = true) (hb : n + m ≤ 1000000000)
    (hK : ∀ A' c', n + m ≤ c' → IsAt A' ∨ m = 0 → K ⟨stO s.t d (.c (.v (.slice A' (n + m) c'))), (k, .own (rowA e sz (.slice A' (n + m) c') (n + m) (cs ++ news))) :: del k s.L, s.z, s.n⟩) : appM P t x y d s K := fun o ho hd =>
  opM.sat (appM_new (K := fun s' => ∃ v', s' = ⟨stO s.t d (.c (.v v')), (k, .own (rowA e sz v' (n + m) (cs ++ news))) :: del k s.L, s.z, s.n⟩) k ht hk hk' hx hy hj hcj hl h1 hb (fun v' => ⟨v', rfl⟩) o ho hd) fun s' ⟨v', e'⟩ C ρ a w hs => by
    subst e'
    obtain ⟨A', c', e1, e2, e3⟩ := hs.formR k (by show (if k = k then _ else _) = _; rw [if_pos rfl])
    subst e1
    refine hK A' c' e2 ?_
    rcases Nat.eq_zero_or_pos m with h0 | h0
    · exact .inr h0
    · exact .inl (e3 (by omega))
end
end Go.Proofs.YtpjaidjnamngaaaGreat
namespace Go.Proofs.YtpjaidjnamngaaaGreat
set_option linter.unusedVariables false
set_option linter.unusedSimpArgs false
set_option maxRecDepth 100000
set_option maxHeartbeats 4000000
open Go.RowKit
/-- impl.clone[byte] -/
def ic37 : IC := (.seq (.reg [] (.op .t (.mv (.const (.slice none 0 0))) (some 2) none .done)) (.seq (.reg [] (.op .t (.mv (.tmp 0)) (some 3) none (.op .t (.call 67 [.tmp 3]) (some 4) none (.op .t (.call 66 [.tmp 4]) (some 5) none (.op .t (.mv (.tmp 5)) (some 2) none .done))))) .ret))
theorem ic37_ok : Tryz.f37.body.bind (trC Tryz.prog []) = some ic37 := by kernel_rfl
def fr37 : List FR := [(FR.t 2)]
theorem fr37_ok : fres Tryz.prog Tryz.f37.results.toList = some fr37 := by kernel_rfl
/-- impl.clone[impl.SegPart] -/
def ic34 : IC := (.seq (.reg [] (.op .t (.mv (.const (.slice none 0 0))) (some 2) none .done)) (.seq (.reg [] (.op .t (.mv (.tmp 0)) (some 3) none (.op .t (.call 65 [.tmp 3]) (some 4) none (.op .t (.call 64 [.tmp 4]) (some 5) none (.op .t (.mv (.tmp 5)) (some 2) none .done))))) .ret))
theorem ic34_ok : Tryz.f34.body.bind (trC Tryz.prog []) = some ic34 := by kernel_rfl
def fr34 : List FR := [(FR.t 2)]
theorem fr34_ok : fres Tryz.prog Tryz.f34.results.toList = some fr34 := by kernel_rfl
/-- slices.Clone[[]byte,byte] -/
def ic67 : IC := (.seq (.reg [] (.op .t (.mv (.const (.slice none 0 0))) (some 2) none .done)) (.seq (.seq (.reg [] (.op .t (.mv (.tmp 0)) (some 3) none (.op .t (.isn false (.tmp 3)) (some 4) none .done))) (.cond (.tmp 4) (.seq (.reg [] (.op .t (.mv (.const (.slice none 0 0))) (some 2) none .done)) .ret) .skip)) (.seq (.reg [] (.op .t (.bsl 5 1 0 [(.int .u8 0)] []) (some 5) none (.op .t (.mv (.tmp 0)) (some 6) none (.op .t (.app 22 (.tmp 5) (.tmp 6)) (some 7) none (.op .t (.mv (.tmp 7)) (some 2) none .done))))) .ret)))
theorem ic67_ok : Tryz.f67.body.bind (trC Tryz.prog []) = some ic67 := by kernel_rfl
def fr67 : List FR := [(FR.t 2)]
theorem fr67_ok : fres Tryz.prog Tryz.f67.results.toList = some fr67 := by kernel_rfl
/-- slices.Clip[[]byte,byte] -/
def ic66 : IC := (.seq (.reg [] (.op .t (.mv (.const (.slice none 0 0))) (some 2) none .done)) (.seq (.reg [] (.op .t (.mv (.tmp 0)) (some 3) none (.op .t (.mv (.tmp 0)) (some 4) none (.op .t (.len (.tmp 4)) (some 5) none (.op .t (.mv (.tmp 0)) (some 6) none (.op .t (.len (.tmp 6)) (some 7) none (.op .t (.sl3 (.tmp 3) none (.tmp 5) (.tmp 7) 1) (some 8) none (.op .t (.mv (.tmp 8)) (some 2) none .done)))))))) .ret))
theorem ic66_ok : Tryz.f66.body.bind (trC Tryz.prog []) = some ic66 := by kernel_rfl
def fr66 : List FR := [(FR.t 2)]
theorem fr66_ok : fres Tryz.prog Tryz.f66.results.toList = some fr66 := by kernel_rfl
/-- slices.Clone[[]impl.SegPart,impl.SegPart] -/
def ic65 : IC := (.seq (.reg [] (.op .t (.mv (.const (.slice none 0 0))) (some 2) none .done)) (.seq (.seq (.reg [] (.op .t (.mv (.tmp 0)) (some 3) none (.op .t (.isn false (.tmp 3)) (some 4) none .done))) (.cond (.tmp 4) (.seq (.reg [] (.op .t (.mv (.const (.slice none 0 0))) (some 2) none .done)) .ret) .skip)) (.seq (.reg [] (.op .t (.bsl 88 3 0 [(.int .i64 0), (.int .i64 0), (.slice none 0 0)] []) (some 5) none (.op .t (.mv (.tmp 0)) (some 6) none (.op .t (.app 28 (.tmp 5) (.tmp 6)) (some 7) none (.op .t (.mv (.tmp 7)) (some 2) none .done))))) .ret)))
theorem ic65_ok : Tryz.f65.body.bind (trC Tryz.prog []) = some ic65 := by kernel_rfl
def fr65 : List FR := [(FR.t 2)]
theorem fr65_ok : fres Tryz.prog Tryz.f65.results.toList = some fr65 := by kernel_rfl
/-- slices.Clip[[]impl.SegPart,impl.SegPart] -/
def ic64 : IC := (.seq (.reg [] (.op .t (.mv (.const (.slice none 0 0))) (some 2) none .done)) (.seq (.reg [] (.op .t (.mv (.tmp 0)) (some 3) none (.op .t (.mv (.tmp 0)) (some 4) none (.op .t (.len (.tmp 4)) (some 5) none (.op .t (.mv (.tmp 0)) (some 6) none (.op .t (.len (.tmp 6)) (some 7) none (.op .t (.sl3 (.tmp 3) none (.tmp 5) (.tmp 7) 3) (some 8) none (.op .t (.mv (.tmp 8)) (some 2) none .done)))))))) .ret))
theorem ic64_ok : Tryz.f64.body.bind (trC Tryz.prog []) = some ic64 := by kernel_rfl
def fr64 : List FR := [(FR.t 2)]
theorem fr64_ok : fres Tryz.prog Tryz.f64.results.toList = some fr64 := by kernel_rfl
/-- impl.in -/
def ic36 : IC := (.seq (.reg [] (.op .t (.mv (.const (.bool false))) (some 6) none .done)) (.seq (.reg [] (.op .t (.mv (.tmp 0)) (some 7) none (.op .t (.mv (.tmp 1)) (some 8) none (.op .t (.bin .geq (.tmp 7) (.tmp 8)) (some 9) none (.op .t (.mv (.tmp 9)) (some 10) none (.op .t (.mv (.tmp 0)) (some 11) (some (10, true)) (.op .t (.mv (.tmp 2)) (some 12) (some (10, true)) (.op .t (.bin .leq (.tmp 11) (.tmp 12)) (some 13) (some (10, true)) (.op .t (.pick (.tmp 10) (.tmp 13) (.const (.bool false))) (some 14) none (.op .t (.mv (.tmp 14)) (some 6) none .done)))))))))) .ret))
theorem ic36_ok : Tryz.f36.body.bind (trC Tryz.prog []) = some ic36 := by kernel_rfl
def fr36 : List FR := [(FR.t 6)]
theorem fr36_ok : fres Tryz.prog Tryz.f36.results.toList = some fr36 := by kernel_rfl
/-- spec.l1In -/
def ic85 : IC := (.seq (.reg [] (.op .t (.mv (.const (.bool false))) (some 6) none .done)) (.seq (.reg [] (.op .t (.mv (.tmp 0)) (some 7) none (.op .t (.mv (.tmp 1)) (some 8) none (.op .t (.bin .geq (.tmp 7) (.tmp 8)) (some 9) none (.op .t (.mv (.tmp 9)) (some 10) none (.op .t (.mv (.tmp 0)) (some 11) (some (10, true)) (.op .t (.mv (.tmp 2)) (some 12) (some (10, true)) (.op .t (.bin .leq (.tmp 11) (.tmp 12)) (some 13) (some (10, true)) (.op .t (.pick (.tmp 10) (.tmp 13) (.const (.bool false))) (some 14) none (.op .t (.mv (.tmp 14)) (some 6) none .done)))))))))) .ret))
theorem ic85_ok : Tryz.f85.body.bind (trC Tryz.prog []) = some ic85 := by kernel_rfl
def fr85 : List FR := [(FR.t 6)]
theorem fr85_ok : fres Tryz.prog Tryz.f85.results.toList = some fr85 := by kernel_rfl
/-- impl.isNumber -/
def ic45 : IC := (.seq (.reg [] (.op .t (.mv (.const (.bool false))) (some 2) none .done)) (.seq (.reg [] (.op .t (.mv (.tmp 0)) (some 3) none (.op .t (.call 36 [.tmp 3, (.const (.int .i64 0)), (.const (.int .i64 7))]) (some 4) none (.op .t (.mv (.tmp 4)) (some 2) none .done)))) .ret))
theorem ic45_ok : Tryz.f45.body.bind (trC Tryz.prog []) = some ic45 := by kernel_rfl
def fr45 : List FR := [(FR.t 2)]
theorem fr45_ok : fres Tryz.prog Tryz.f45.results.toList = some fr45 := by kernel_rfl
/-- impl.CfgOk -/
def ic38 : IC := (.seq (.reg [] (.op .t (.box 24 (.tmp 0)) (some 1) none (.op .t (.mv (.const (.bool false))) (some 2) none .done))) (.seq (.reg [] (.op .t (.fad (.tmp 1) 0) (some 3) none (.op .t (.ld (.tmp 3) 1 false) (some 4) none (.op .t (.call 36 [.tmp 4, (.const (.int .i64 1)), (.const (.int .i64 2))]) (some 5) none (.op .t (.mv (.tmp 5)) (some 6) none (.op .t (.fad (.tmp 1) 1) (some 7) (some (6, true)) (.op .t (.ld (.tmp 7) 1 false) (some 8) (some (6, true)) (.op .t (.call 36 [.tmp 8, (.const (.int .i64 1)), (.const (.int .i64 4))]) (some 9) (some (6, true)) (.op .t (.pick (.tmp 6) (.tmp 9) (.const (.bool false))) (some 10) none (.op .t (.mv (.tmp 10)) (some 11) none (.op .t (.fad (.tmp 1) 2) (some 12) (some (11, true)) (.op .t (.ld (.tmp 12) 1 false) (some 13) (some (11, true)) (.op .t (.call 36 [.tmp 13, (.const (.int .i64 1)), (.const (.int .i64 8))]) (some 14) (some (11, true)) (.op .t (.pick (.tmp 11) (.tmp 14) (.const (.bool false))) (some 15) none (.op .t (.mv (.tmp 15)) (some 16) none (.op .t (.fad (.tmp 1) 3) (some 17) (some (16, true)) (.op .t (.ld (.tmp 17) 1 false) (some 18) (some (16, true)) (.op .t (.call 36 [.tmp 18, (.const (.int .i64 1)), (.const (.int .i64 24))]) (some 19) (some (16, true)) (.op .t (.pick (.tmp 16) (.tmp 19) (.const (.bool false))) (some 20) none (.op .t (.mv (.tmp 20)) (some 21) none (.op .t (.fad (.tmp 1) 4) (some 22) (some (21, true)) (.op .t (.ld (.tmp 22) 1 false) (some 23) (some (21, true)) (.op .t (.call 36 [.tmp 23, (.const (.int .i64 1)), (.const (.int .i64 5))]) (some 24) (some (21, true)) (.op .t (.pick (.tmp 21) (.tmp 24) (.const (.bool false))) (some 25) none (.op .t (.mv (.tmp 25)) (some 2) none .done))))))))))))))))))))))))) .ret))
theorem ic38_ok : Tryz.f38.body.bind (trC Tryz.prog []) = some ic38 := by kernel_rfl
def fr38 : List FR := [(FR.t 2)]
theorem fr38_ok : fres Tryz.prog Tryz.f38.results.toList = some fr38 := by kernel_rfl
/-- spec.CfgOk -/
def ic81 : IC := (.seq (.reg [] (.op .t (.box 24 (.tmp 0)) (some 1) none (.op .t (.mv (.const (.bool false))) (some 2) none .done))) (.seq (.reg [] (.op .t (.fad (.tmp 1) 0) (some 3) none (.op .t (.ld (.tmp 3) 1 false) (some 4) none (.op .t (.call 85 [.tmp 4, (.const (.int .i64 1)), (.const (.int .i64 2))]) (some 5) none (.op .t (.mv (.tmp 5)) (some 6) none (.op .t (.fad (.tmp 1) 1) (some 7) (some (6, true)) (.op .t (.ld (.tmp 7) 1 false) (some 8) (some (6, true)) (.op .t (.call 85 [.tmp 8, (.const (.int .i64 1)), (.const (.int .i64 4))]) (some 9) (some (6, true)) (.op .t (.pick (.tmp 6) (.tmp 9) (.const (.bool false))) (some 10) none (.op .t (.mv (.tmp 10)) (some 11) none (.op .t (.fad (.tmp 1) 2) (some 12) (some (11, true)) (.op .t (.ld (.tmp 12) 1 false) (some 13) (some (11, true)) (.op .t (.call 85 [.tmp 13, (.const (.int .i64 1)), (.const (.int .i64 8))]) (some 14) (some (11, true)) (.op .t (.pick (.tmp 11) (.tmp 14) (.const (.bool false))) (some 15) none (.op .t (.mv (.tmp 15)) (some 16) none (.op .t (.fad (.tmp 1) 3) (some 17) (some (16, true)) (.op .t (.ld (.tmp 17) 1 false) (some 18) (some (16, true)) (.op .t (.call 85 [.tmp 18, (.const (.int .i64 1)), (.const (.int .i64 24))]) (some 19) (some (16, true)) (.op .t (.pick (.tmp 16) (.tmp 19) (.const (.bool false))) (some 20) none (.op .t (.mv (.tmp 20)) (some 21) none (.op .t (.fad (.tmp 1) 4) (some 22) (some (21, true)) (.op .t (.ld (.tmp 22) 1 false) (some 23) (some (21, true)) (.op .t (.call 85 [.tmp 23, (.const (.int .i64 1)), (.const (.int .i64 5))]) (some 24) (some (21, true)) (.op .t (.pick (.tmp 21) (.tmp 24) (.const (.bool false))) (some 25) none (.op .t (.mv (.tmp 25)) (some 2) none .done))))))))))))))))))))))))) .ret))
theorem ic81_ok : Tryz.f81.body.bind (trC Tryz.prog []) = some ic81 := by kernel_rfl
def fr81 : List FR := [(FR.t 2)]
theorem fr81_ok : fres Tryz.prog Tryz.f81.results.toList = some fr81 := by kernel_rfl
/-- spec.l2Bit -/
def ic106 : IC := (.seq (.reg [] (.op .t (.mv (.const (.int .i64 0))) (some 2) none .done)) (.seq (.seq (.reg [] (.op .t (.mv (.tmp 0)) (some 3) none .done)) (.cond (.tmp 3) (.seq (.reg [] (.op .t (.mv (.const (.int .i64 1))) (some 2) none .done)) .ret) .skip)) (.seq (.reg [] (.op .t (.mv (.const (.int .i64 0))) (some 2) none .done)) .ret)))
theorem ic106_ok : Tryz.f106.body.bind (trC Tryz.prog []) = some ic106 := by kernel_rfl
def fr106 : List FR := [(FR.t 2)]
theorem fr106_ok : fres Tryz.prog Tryz.f106.results.toList = some fr106 := by kernel_rfl
/-- impl.pieceOk -/
def ic68 : IC := (.seq (.reg [] (.op .t (.mv (.const (.bool false))) (some 6) none .done)) (.seq (.reg [] (.op .t (.mv (.tmp 2)) (some 8) none (.op .t (.len (.tmp 8)) (some 9) none (.op .t (.mv (.tmp 9)) (some 7) none .done)))) (.seq (.seq (.reg [] (.op .t (.mv (.tmp 0)) (some 10) none .done)) (.block 0 (.seq (.reg [] (.op .t (.bin .eql (.tmp 10) (.const (.int .i64 0))) (some 12) none (.op .t (.mv (.tmp 12)) (some 11) none .done))) (.cond (.tmp 11) (.seq (.reg [] (.op .t (.mv (.tmp 7)) (some 13) none (.op .t (.bin .leq (.tmp 13) (.const (.int .i64 8))) (some 14) none (.op .t (.mv (.tmp 14)) (some 15) none (.op .t (.mv (.tmp 1)) (some 16) (some (15, true)) (.op .t (.mv (.tmp 7)) (some 17) (some (15, true)) (.op .t (.bin .eql (.tmp 16) (.tmp 17)) (some 18) (some (15, true)) (.op .t (.pick (.tmp 15) (.tmp 18) (.const (.bool false))) (some 19) none (.op .t (.mv (.tmp 19)) (some 6) none .done))))))))) .ret) (.seq (.reg [] (.op .t (.bin .eql (.tmp 10) (.const (.int .i64 1))) (some 21) none (.op .t (.mv (.tmp 21)) (some 20) none .done))) (.cond (.tmp 20) (.seq (.reg [] (.op .t (.mv (.tmp 7)) (some 22) none (.op .t (.call 36 [.tmp 22, (.const (.int .i64 1)), (.const (.int .i64 8))]) (some 23) none (.op .t (.mv (.tmp 23)) (some 24) none (.op .t (.mv (.tmp 1)) (some 25) (some (24, true)) (.op .t (.mv (.tmp 7)) (some 26) (some (24, true)) (.op .t (.bin .add (.tmp 26) (.const (.int .i64 1))) (some 27) (some (24, true)) (.op .t (.call 36 [.tmp 25, .tmp 27, (.const (.int .i64 24))]) (some 28) (some (24, true)) (.op .t (.pick (.tmp 24) (.tmp 28) (.const (.bool false))) (some 29) none (.op .t (.mv (.tmp 29)) (some 6) none .done)))))))))) .ret) (.seq (.seq (.reg [] (.op .t (.bin .eql (.tmp 10) (.const (.int .i64 2))) (some 31) none (.op .t (.mv (.tmp 31)) (some 30) none .done))) (.cond (.tmp 30) .skip (.reg [] (.op .t (.bin .eql (.tmp 10) (.const (.int .i64 3))) (some 32) none (.op .t (.mv (.tmp 32)) (some 30) none .done))))) (.cond (.tmp 30) (.seq (.reg [] (.op .t (.mv (.tmp 7)) (some 33) none (.op .t (.call 36 [.tmp 33, (.const (.int .i64 1)), (.const (.int .i64 8))]) (some 34) none (.op .t (.mv (.tmp 34)) (some 35) none (.op .t (.mv (.tmp 1)) (some 36) (some (35, true)) (.op .t (.bin .eql (.tmp 36) (.const (.int .i64 0))) (some 37) (some (35, true)) (.op .t (.pick (.tmp 35) (.tmp 37) (.const (.bool false))) (some 38) none (.op .t (.mv (.tmp 38)) (some 6) none .done)))))))) .ret) .skip)))))))) (.seq (.reg [] (.op .t (.mv (.const (.bool false))) (some 6) none .done)) .ret))))
theorem ic68_ok : Tryz.f68.body.bind (trC Tryz.prog []) = some ic68 := by kernel_rfl
def fr68 : List FR := [(FR.t 6)]
theorem fr68_ok : fres Tryz.prog Tryz.f68.results.toList = some fr68 := by kernel_rfl
/-- impl.PartOk -/
def ic73 : IC := (.seq (.reg [] (.op .t (.box 88 (.tmp 0)) (some 1) none (.op .t (.mv (.const (.bool false))) (some 2) none .done))) (.seq (.reg [] (.op .t (.fad (.tmp 1) 0) (some 3) none (.op .t (.ld (.tmp 3) 1 false) (some 4) none (.op .t (.fad (.tmp 1) 1) (some 5) none (.op .t (.ld (.tmp 5) 1 false) (some 6) none (.op .t (.fad (.tmp 1) 2) (some 7) none (.op .t (.ld (.tmp 7) 1 false) (some 8) none (.op .t (.call 68 [.tmp 4, .tmp 6, .tmp 8]) (some 9) none (.op .t (.mv (.tmp 9)) (some 2) none .done))))))))) .ret))
theorem ic73_ok : Tryz.f73.body.bind (trC Tryz.prog []) = some ic73 := by kernel_rfl
def fr73 : List FR := [(FR.t 2)]
theorem fr73_ok : fres Tryz.prog Tryz.f73.results.toList = some fr73 := by kernel_rfl
/-- spec.l2Seg -/
def ic130 : IC := (.seq (.reg [] (.op .t (.box 41 (.tmp 0)) (some 1) none (.op .t (.mv (.const (.bool false))) (some 2) none .done))) (.seq (.seq (.reg [] (.op .t (.fad (.tmp 1) 6) (some 3) none (.op .t (.ld (.tmp 3) 1 false) (some 4) none (.op .t (.call 85 [.tmp 4, (.const (.int .i64 0)), (.const (.int .i64 3))]) (some 5) none (.op .t (.not (.tmp 5)) (some 6) none (.op .t (.mv (.tmp 6)) (some 7) none (.op .t (.fad (.tmp 1) 8) (some 8) (some (7, false)) (.op .t (.ld (.tmp 8) 1 false) (some 9) (some (7, false)) (.op .t (.len (.tmp 9)) (some 10) (some (7, false)) (.op .t (.bin .eql (.tmp 10) (.const (.int .i64 0))) (some 11) (some (7, false)) (.op .t (.mv (.tmp 11)) (some 12) (some (7, false)) (.op .t (.fad (.tmp 1) 7) (some 13) (some (12, true)) (.op .t (.ld (.tmp 13) 1 false) (some 14) (some (12, true)) (.op .t (.bin .neq (.tmp 14) (.const (.int .i64 0))) (some 15) (some (12, true)) (.op .t (.pick (.tmp 12) (.tmp 15) (.const (.bool false))) (some 16) (some (7, false)) (.op .t (.pick (.tmp 7) (.const (.bool true)) (.tmp 16)) (some 17) none (.op .t (.mv (.tmp 17)) (some 18) none (.op .t (.fad (.tmp 1) 8) (some 19) (some (18, false)) (.op .t (.ld (.tmp 19) 1 false) (some 20) (some (18, false)) (.op .t (.len (.tmp 20)) (some 21) (some (18, false)) (.op .t (.bin .gtr (.tmp 21) (.const (.int .i64 8))) (some 22) (some (18, false)) (.op .t (.pick (.tmp 18) (.const (.bool true)) (.tmp 22)) (some 23) none .done)))))))))))))))))))))) (.cond (.tmp 23) (.seq (.reg [] (.op .t (.mv (.const (.bool false))) (some 2) none .done)) .ret) .skip)) (.seq (.seq (.reg [] (.op .t (.fad (.tmp 1) 6) (some 24) none (.op .t (.ld (.tmp 24) 1 false) (some 25) none .done))) (.block 0 (.seq (.reg [] (.op .t (.bin .eql (.tmp 25) (.const (.int .i64 0))) (some 27) none (.op .t (.mv (.tmp 27)) (some 26) none .done))) (.cond (.tmp 26) (.seq (.reg [] (.op .t (.fad (.tmp 1) 7) (some 28) none (.op .t (.ld (.tmp 28) 1 false) (some 29) none (.op .t (.fad (.tmp 1) 8) (some 30) none (.op .t (.ld (.tmp 30) 1 false) (some 31) none (.op .t (.len (.tmp 31)) (some 32) none (.op .t (.bin .eql (.tmp 29) (.tmp 32)) (some 33) none (.op .t (.mv (.tmp 33)) (some 2) none .done)))))))) .ret) (.seq (.reg [] (.op .t (.bin .eql (.tmp 25) (.const (.int .i64 1))) (some 35) none (.op .t (.mv (.tmp 35)) (some 34) none .done))) (.cond (.tmp 34) (.seq (.reg [] (.op .t (.fad (.tmp 1) 7) (some 36) none (.op .t (.ld (.tmp 36) 1 false) (some 37) none (.op .t (.fad (.tmp 1) 8) (some 38) none (.op .t (.ld (.tmp 38) 1 false) (some 39) none (.op .t (.len (.tmp 39)) (some 40) none (.op .t (.bin .add (.tmp 40) (.const (.int .i64 1))) (some 41) none (.op .t (.call 85 [.tmp 37, .tmp 41, (.const (.int .i64 24))]) (some 42) none (.op .t (.mv (.tmp 42)) (some 43) none (.op .t (.fad (.tmp 1) 8) (some 44) (some (43, true)) (.op .t (.ld (.tmp 44) 1 false) (some 45) (some (43, true)) (.op .t (.len (.tmp 45)) (some 46) (some (43, true)) (.op .t (.bin .gtr (.tmp 46) (.const (.int .i64 0))) (some 47) (some (43, true)) (.op .t (.pick (.tmp 43) (.tmp 47) (.const (.bool false))) (some 48) none (.op .t (.mv (.tmp 48)) (some 2) none .done))))))))))))))) .ret) .skip)))))) (.seq (.reg [] (.op .t (.fad (.tmp 1) 7) (some 49) none (.op .t (.ld (.tmp 49) 1 false) (some 50) none (.op .t (.bin .eql (.tmp 50) (.const (.int .i64 0))) (some 51) none (.op .t (.mv (.tmp 51)) (some 52) none (.op .t (.fad (.tmp 1) 8) (some 53) (some (52, true)) (.op .t (.ld (.tmp 53) 1 false) (some 54) (some (52, true)) (.op .t (.len (.tmp 54)) (some 55) (some (52, true)) (.op .t (.bin .gtr (.tmp 55) (.const (.int .i64 0))) (some 56) (some (52, true)) (.op .t (.pick (.tmp 52) (.tmp 56) (.const (.bool false))) (some 57) none (.op .t (.mv (.tmp 57)) (some 2) none .done))))))))))) .ret))))
theorem ic130_ok : Tryz.f130.body.bind (trC Tryz.prog []) = some ic130 := by kernel_rfl
def fr130 : List FR := [(FR.t 2)]
theorem fr130_ok : fres Tryz.prog Tryz.f130.results.toList = some fr130 := by kernel_rfl
/-- spec.PartOk -/
def ic154 : IC := (.seq (.reg [] (.op .t (.box 88 (.tmp 0)) (some 1) none (.op .t (.mv (.const (.bool false))) (some 2) none .done))) (.seq (.reg [] (.op .t (.fad (.tmp 1) 0) (some 3) none (.op .t (.ld (.tmp 3) 1 false) (some 4) none (.op .t (.fad (.tmp 1) 1) (some 5) none (.op .t (.ld (.tmp 5) 1 false) (some 6) none (.op .t (.fad (.tmp 1) 2) (some 7) none (.op .t (.ld (.tmp 7) 1 false) (some 8) none (.op .t (.bld [(.int .i64 0), (.int .i64 0), (.int .i64 0), (.bool false), (.bool false), (.int .i64 0), (.int .i64 0), (.int .i64 0), (.slice none 0 0)] [(6, (1, (.tmp 4))), (7, (1, (.tmp 6))), (8, (1, (.tmp 8)))]) (some 9) none (.op .t (.call 130 [.tmp 9]) (some 10) none (.op .t (.mv (.tmp 10)) (some 2) none .done)))))))))) .ret))
theorem ic154_ok : Tryz.f154.body.bind (trC Tryz.prog []) = some ic154 := by kernel_rfl
def fr154 : List FR := [(FR.t 2)]
theorem fr154_ok : fres Tryz.prog Tryz.f154.results.toList = some fr154 := by kernel_rfl
/-- impl.JoinOk -/
def ic42 : IC := (.seq (.reg [] (.op .t (.box 32 (.tmp 0)) (some 1) none (.op .t (.mv (.const (.bool false))) (some 2) none .done))) (.seq (.reg [] (.op .t (.fad (.tmp 1) 0) (some 3) none (.op .t (.ld (.tmp 3) 1 false) (some 4) none (.op .t (.bin .eql (.tmp 4) (.const (.int .i64 0))) (some 5) none (.op .t (.mv (.tmp 5)) (some 6) none (.op .t (.fad (.tmp 1) 1) (some 7) (some (6, true)) (.op .t (.ld (.tmp 7) 1 false) (some 8) (some (6, true)) (.op .t (.len (.tmp 8)) (some 9) (some (6, true)) (.op .t (.bin .eql (.tmp 9) (.const (.int .i64 0))) (some 10) (some (6, true)) (.op .t (.pick (.tmp 6) (.tmp 10) (.const (.bool false))) (some 11) none (.op .t (.mv (.tmp 11)) (some 12) none (.op .t (.fad (.tmp 1) 0) (some 13) (some (12, false)) (.op .t (.ld (.tmp 13) 1 false) (some 14) (some (12, false)) (.op .t (.call 36 [.tmp 14, (.const (.int .i64 2)), (.const (.int .i64 24))]) (some 15) (some (12, false)) (.op .t (.mv (.tmp 15)) (some 16) (some (12, false)) (.op .t (.fad (.tmp 1) 1) (some 17) (some (16, true)) (.op .t (.ld (.tmp 17) 1 false) (some 18) (some (16, true)) (.op .t (.len (.tmp 18)) (some 19) (some (16, true)) (.op .t (.fad (.tmp 1) 0) (some 20) (some (16, true)) (.op .t (.ld (.tmp 20) 1 false) (some 21) (some (16, true)) (.op .t (.bin .sub (.tmp 21) (.const (.int .i64 1))) (some 22) (some (16, true)) (.op .t (.call 36 [.tmp 19, (.const (.int .i64 1)), .tmp 22]) (some 23) (some (16, true)) (.op .t (.pick (.tmp 16) (.tmp 23) (.const (.bool false))) (some 24) (some (12, false)) (.op .t (.pick (.tmp 12) (.const (.bool true)) (.tmp 24)) (some 25) none (.op .t (.mv (.tmp 25)) (some 2) none .done))))))))))))))))))))))))) .ret))
theorem ic42_ok : Tryz.f42.body.bind (trC Tryz.prog []) = some ic42 := by kernel_rfl
def fr42 : List FR := [(FR.t 2)]
theorem fr42_ok : fres Tryz.prog Tryz.f42.results.toList = some fr42 := by kernel_rfl
/-- spec.JoinOk -/
def ic148 : IC := (.seq (.reg [] (.op .t (.box 32 (.tmp 0)) (some 1) none (.op .t (.mv (.const (.bool false))) (some 2) none .done))) (.seq (.reg [] (.op .t (.fad (.tmp 1) 0) (some 3) none (.op .t (.ld (.tmp 3) 1 false) (some 4) none (.op .t (.bin .eql (.tmp 4) (.const (.int .i64 0))) (some 5) none (.op .t (.mv (.tmp 5)) (some 6) none (.op .t (.fad (.tmp 1) 1) (some 7) (some (6, true)) (.op .t (.ld (.tmp 7) 1 false) (some 8) (some (6, true)) (.op .t (.len (.tmp 8)) (some 9) (some (6, true)) (.op .t (.bin .eql (.tmp 9) (.const (.int .i64 0))) (some 10) (some (6, true)) (.op .t (.pick (.tmp 6) (.tmp 10) (.const (.bool false))) (some 11) none (.op .t (.mv (.tmp 11)) (some 12) none (.op .t (.fad (.tmp 1) 0) (some 13) (some (12, false)) (.op .t (.ld (.tmp 13) 1 false) (some 14) (some (12, false)) (.op .t (.call 85 [.tmp 14, (.const (.int .i64 2)), (.const (.int .i64 24))]) (some 15) (some (12, false)) (.op .t (.mv (.tmp 15)) (some 16) (some (12, false)) (.op .t (.fad (.tmp 1) 1) (some 17) (some (16, true)) (.op .t (.ld (.tmp 17) 1 false) (some 18) (some (16, true)) (.op .t (.len (.tmp 18)) (some 19) (some (16, true)) (.op .t (.fad (.tmp 1) 0) (some 20) (some (16, true)) (.op .t (.ld (.tmp 20) 1 false) (some 21) (some (16, true)) (.op .t (.bin .sub (.tmp 21) (.const (.int .i64 1))) (some 22) (some (16, true)) (.op .t (.call 85 [.tmp 19, (.const (.int .i64 1)), .tmp 22]) (some 23) (some (16, true)) (.op .t (.pick (.tmp 16) (.tmp 23) (.const (.bool false))) (some 24) (some (12, false)) (.op .t (.pick (.tmp 12) (.const (.bool true)) (.tmp 24)) (some 25) none (.op .t (.mv (.tmp 25)) (some 2) none .done))))))))))))))))))))))))) .ret))
theorem ic148_ok : Tryz.f148.body.bind (trC Tryz.prog []) = some ic148 := by kernel_rfl
def fr148 : List FR := [(FR.t 2)]
theorem fr148_ok : fres Tryz.prog Tryz.f148.results.toList = some fr148 := by kernel_rfl
end Go.Proofs.YtpjaidjnamngaaaGreat
