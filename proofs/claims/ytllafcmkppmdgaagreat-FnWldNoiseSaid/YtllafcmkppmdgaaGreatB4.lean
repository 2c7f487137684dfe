/- The engine, ninth part: rows that grow, structs behind pointers, what values say. · The engine, eleventh part: rows that are written, cut, made; what is held, packed; closures. · The engine, twelfth part: loops, by what they turn. · The engine: the steps, as one list. · The engine: short forms of codes, for merged texts. · The engine: forgetting where code begins, and behind regions with orders. · The engine: a slice made, whose place is known. -/
import Derived.Test.YtllafcmkppmdgaaGreatB3
namespace Go.Proofs.YtllafcmkppmdgaaGreat
open Go.RowKit
set_option linter.unusedVariables false
set_option linter.unusedSimpArgs false
section
variable {P : Program} {s : St} {K : St → Prop}
theorem own_after {C : Ctx} {ρ : Nm} {a : Act} {w w' : World} {d : Option Nat} {k : Nat} {A A' : Asrt} {L : Ents} {F F1 F2 F' : Nat → Prop} {z' : Zc} {sv : SV} {v : Value} (h : Sat C ρ s a w) (h1 : Holds ρ w s.L F) (h2 : WOk C s.z F w)
  (g1 : A.holds w F1) (g2 : Holds ρ w L F2) (gd : ∀ b, F1 b → ¬ F2 b) (gF : ∀ b, F b ↔ F1 b ∨ F2 b) (hcells : ∀ j e cs, look j s.L = some (.cells e cs) → look j L = some (.cells e cs)) (hk : ∀ e cs, look k L ≠ some (.cells e cs))
  (k2 : A'.holds w' F') (k3 : WOk ⟨w, F1, s.z⟩ z' F' w') (hv : sv.den ρ v) :
  Sat C ρ ⟨stO s.t d sv, (k, .own A') :: L, z', s.n⟩ (a.put d v) w' ∧ Stp ρ s w ρ ⟨stO s.t d sv, (k, .own A') :: L, z', s.n⟩ w' := by
 have hFe : F = fun b => F1 b ∨ F2 b := funext fun b => propext (gF b)
 have hm := Mem.call (C := C) (k := k) g1 g2 gd (by rw [← hFe]; exact h2) k2 k3
 refine ⟨⟨by cases d <;> exact h.df, stO_den h.fr d hv, h.nm, hm⟩, List.prefix_rfl, k3.zle, fun X B hB => ⟨fun b hb => ?_, fun b hb => ?_⟩⟩
 ·have hlt : b < w.heap.size := hB.old h.mem hb
  refine k3.unt b hlt fun hf => ?_
  rcases hB b hb with hz | ⟨j, e, cs, q1, q2, qX⟩
  ·exact h2.dis b ((gF b).2 (.inl hf)) hz
  ·have hj := hcells j e cs q1
   obtain ⟨G1, G2, ⟨b', vs', r1, r2, r3, r4⟩, _, _, rF⟩ := Holds.pick g2 hj
   rw [q2] at r1; injection r1 with r1; subst r1
   exact gd b hf ((rF b).2 (.inl ((r4 b).2 rfl)))
 ·rcases hB b hb with hz | ⟨j, e, cs, q1, q2, qX⟩
  ·exact .inl (k3.zle.to b hz).1
  ·have hj := hcells j e cs q1
   refine .inr ⟨j, e, cs, ?_, q2, qX⟩
   show (if k = j then _ else look j L) = _
   by_cases hkj : k = j
   ·subst hkj; exact absurd hj (hk e cs)
   ·rw [if_neg hkj]; exact hj
theorem tr_app {op : Op} {t : TypeId} {x y : Operand} (h : tr P op = .app t x y) : ∃ c, op = .call c ∧ c.callee = .builtin .append ∧ c.args = #[x, y] ∧ c.argTypes = #[t, t] := by
 cases op with
 | call c =>
  rcases trCall_cases (show trCall P c = _ from h) with ⟨_, _, e, _⟩ | ⟨_, _, e, _⟩ | ⟨_, _, e, _⟩ | ⟨s', x', t', e, h1, h2, h3⟩ | ⟨f', fn, e, _⟩ | e
  ·cases e
  ·cases e
  ·cases e
  ·injection e with e1 e2 e3; subst e1; subst e2; subst e3
   exact ⟨c, rfl, h1, by rw [← h2], by rw [← h3]⟩
  ·cases e
  ·cases e
 | _ => simp only [tr] at h; (repeat' split at h) <;> first | contradiction | cases h
structure AppTy (P : Program) (t e sz : Nat) : Prop where
 und : P.underlying t = some (.slice e)
 inf : ∃ i z, P.info? e = some i ∧ i.zero = some z ∧ i.size = sz ∧ i.bytes ≤ 1000 ∧ z.cells.size = sz
 pos : 0 < sz
def appOk (P : Program) (t e sz : Nat) : Bool := match isSlice P t, P.info? e with
 | some e', some i => e' == e && (match i.zero with
  | some z => i.size == sz && decide (i.bytes ≤ 1000) && z.cells.size == sz && decide (0 < sz)
  | none => false)
 | _, _ => false
theorem AppTy.of {t e sz : Nat} (h : appOk P t e sz = true) : AppTy P t e sz := by
 unfold appOk at h
 split at h
 ·rename_i e' i he hi
  simp only [Bool.and_eq_true, beq_iff_eq] at h
  obtain ⟨h0, h⟩ := h
  split at h
  ·rename_i z hz
   simp only [Bool.and_eq_true, beq_iff_eq, decide_eq_true_eq] at h
   exact ⟨by rw [← h0]; exact isSlice_spec he, ⟨i, z, hi, hz, h.1.1.1, h.1.1.2, h.1.2⟩, h.2⟩
  ·cases h
 ·cases h
theorem run_app {o : Oper} {a : Act} {t : TypeId} {x y : Operand} (ho : tr P o.op = .app t x y) {w w' : World} {v' : Value} (h : (Builtin.append_ #[t, t] o.type #[a.eval x, a.eval y]).run P w = .ok v' w') : (execOp a.eval o).run P w = .ok (.value v') w' := by
 obtain ⟨c, h1, h2, h3, h4⟩ := tr_app ho
 unfold execOp
 simp [h1, resolve, h2, h3, h4, invoke, builtin, h]
theorem appM_core {o : Oper} {t e sz : Nat} {x y : Operand} (ho : tr P o.op = .app t x y) (ht : AppTy P t e sz) (k : Nat) {v : Value} {n : Nat} {cs : List Value} (hk : look k s.L = some (.own (rowA e sz v n cs))) (hk' : look k (del k s.L) = none) (hx : ev s.t x = .c (.v v))
  {m : Nat} {news : List Value} (hy : ∀ C ρ a w, Sat C ρ s a w → ∃ A c, a.eval y = .slice A m c ∧ Rd w A news) (hl : news.length = m * sz) (h1 : ∀ u ∈ news, u.oneCell' = true) (hb : n + m ≤ 1000000000)
  (hK : ∀ v', K ⟨stO s.t o.dst (.c (.v v')), (k, .own (rowA e sz v' (n + m) (cs ++ news))) :: del k s.L, s.z, s.n⟩) : opM P o s K := fun C ρ a w Q h => by
 obtain ⟨A, c, hyv, hr⟩ := hy C ρ a w h
 obtain ⟨i, z0, i1, i2, i3, i4, i5⟩ := ht.inf
 obtain ⟨F, f1, f2⟩ := h.mem
 obtain ⟨F1, F2, ⟨hrow, hF1⟩, g2, gd, gF⟩ := f1.pick hk
 have hxv : a.eval x = v := by have := ev_den h.fr x; rw [hx] at this; exact this
 obtain ⟨v', w', hrun, r1, r2, r3⟩ := run_append_row (P := P) w t o.type e i z0 sz i.bytes ht.und i1 i2 i3 rfl i5 ht.pos v n cs hrow A m c news hl hr h1 (by simp only [maxLen]; omega) (by have := Nat.mul_le_mul hb i4; omega)
 have hlt : ∀ g, v.ownBlock = some g → g < w.heap.size := hrow.lt
 have hW : WOk ⟨w, F1, s.z⟩ s.z (fun b => v'.ownBlock = some b) w' := by
  refine ⟨r2.os, r2.tape, r2.output, r2.size, Nat.le_trans f2.zsize r2.size, fun b hb => ?_, fun b hb hz => ?_, fun b hb hf => ?_, fun b hb => ?_, fun b hb => .inl hb, Zc.rfl' _⟩
  ·have hnf : ¬ F1 b := fun hf => f2.dis b ((gF b).2 (.inl hf)) hb
   exact (r2.block b (Nat.lt_of_lt_of_le hb.2 f2.zsize) (fun e => hnf ((hF1 b).2 e.symm))).trans (f2.frz b hb)
  ·rcases r3 with e' | e'
   ·exact f2.dis b ((gF b).2 (.inl ((hF1 b).2 (e' ▸ hb)))) hz
   ·rw [e'] at hb; injection hb with hb; have := Nat.lt_of_lt_of_le hz.2 f2.zsize; omega
  ·exact r2.block b hb (fun e' => hf ((hF1 b).2 e'.symm))
  ·rcases r3 with e' | e'
   ·exact .inl ((hF1 b).2 (e' ▸ hb))
   ·rw [e'] at hb; injection hb with hb; exact .inr (by show w.heap.size ≤ b; omega)
 obtain ⟨hS, hP⟩ := own_after (d := o.dst) (k := k) (sv := .c (.v v')) (v := v') (A := rowA e sz v n cs) (A' := rowA e sz v' (n + m) (cs ++ news)) (L := del k s.L) h f1 f2 ⟨hrow, hF1⟩ g2 gd gF
  (fun j e' cs' hj => by
   by_cases hjk : j = k
   ·subst hjk; rw [hk] at hj; injection hj with hj; cases hj
   ·rw [look_del hjk]; exact hj) (fun e' cs' => by rw [hk']; simp) ⟨r1, fun _ => Iff.rfl⟩ hW rfl
 exact wp_value (run_app ho (by rw [hxv, hyv]; exact hrun)) ⟨_, ρ, hK v', hS, hP⟩
theorem RdAt.rd {C : Ctx} {ρ : Nm} {w : World} {A : Option Addr} {vs : List Value} (r : RdAt s.z A 0 vs) (hm : Mem C ρ s.z s.L w) : Rd w A vs := fun hn => by
 obtain ⟨b, o', h1, _, h2⟩ := hm.rd r hn
 exact ⟨b, o', h1, fun i u hu => by have := h2 i u hu; simpa using this⟩
theorem appM_row (k : Nat) {t e sz : Nat} {x y : Operand} {d : Option Nat} (ht : AppTy P t e sz) {v : Value} {n : Nat} {cs : List Value} (hk : look k s.L = some (.own (rowA e sz v n cs))) (hk' : look k (del k s.L) = none) (hx : ev s.t x = .c (.v v))
  {A : Option Addr} {m c : Nat} {news : List Value} (hy : ev s.t y = .c (.v (.slice A m c))) (hr : RdAt s.z A 0 news) (hl : news.length = m * sz) (h1 : ∀ u ∈ news, u.oneCell' = true) (hb : n + m ≤ 1000000000)
  (hK : ∀ v', K ⟨stO s.t d (.c (.v v')), (k, .own (rowA e sz v' (n + m) (cs ++ news))) :: del k s.L, s.z, s.n⟩) : appM P t x y d s K := fun o ho hd => by
 subst hd
 refine appM_core ho ht k hk hk' hx (fun C ρ a w h => ⟨A, c, ?_, hr.rd h.mem⟩) hl h1 hb hK
 have := ev_den h.fr y; rw [hy] at this; exact this
theorem appM_new (k : Nat) {t e sz : Nat} {x y : Operand} {d : Option Nat} (ht : AppTy P t e sz) {v : Value} {n : Nat} {cs : List Value} (hk : look k s.L = some (.own (rowA e sz v n cs))) (hk' : look k (del k s.L) = none) (hx : ev s.t x = .c (.v v))
  {j m c e' : Nat} {cj : List SC} {news : List Value} (hy : ev s.t y = .c (.s j 0 m c)) (hj : look j s.L = some (.cells e' cj)) (hcj : allV cj = some news) (hl : news.length = m * sz) (h1 : ∀ u ∈ news, u.oneCell' = true) (hb : n + m ≤ 1000000000)
  (hK : ∀ v', K ⟨stO s.t d (.c (.v v')), (k, .own (rowA e sz v' (n + m) (cs ++ news))) :: del k s.L, s.z, s.n⟩) : appM P t x y d s K := fun o ho hd => by
 subst hd
 refine appM_core ho ht k hk hk' hx (fun C ρ a w h => ?_) hl h1 hb hK
 have hyd := ev_den h.fr y
 rw [hy] at hyd
 obtain ⟨b, hb1, hb2⟩ := hyd
 obtain ⟨b', vs, g1, g2, g3⟩ := h.mem.cells hj
 rw [hb1] at g1; injection g1 with g1; subst g1
 refine ⟨_, _, hb2, fun _ => ⟨b, 0, rfl, fun i u hu => ?_⟩⟩
 rw [cell_of_row _ _ _ _ _ _ g3, allV_den hcj g2]
 simpa using hu
end
theorem Mem.freezeRow {C : Ctx} {ρ : Nm} {z : Zc} {L : Ents} {w : World} {k e sz n : Nat} {v : Value} {cs : List Value} (h : Mem C ρ z L w) (hk : look k L = some (.own (rowA e sz v n cs))) :
  ∃ A c z', v = .slice A n c ∧ n ≤ c ∧ z ≤ z' ∧ RdAt z' A 0 cs ∧ Mem C ρ z' (del k L) w := by
 obtain ⟨F, hh, hw⟩ := h
 obtain ⟨F1, F2, ⟨hrow, hF1⟩, k2, kd, kF⟩ := hh.pick hk
 obtain ⟨A, c, h1, h2, h3⟩ := hrow.rd
 have hlt : ∀ x, z.In x → x < w.heap.size := fun x hx => Nat.lt_of_lt_of_le hx.2 hw.zsize
 have hlt1 : ∀ x, F1 x → x < w.heap.size := fun x hx => hrow.lt x ((hF1 x).1 hx)
 have hle : z ≤ ⟨fun x => z.In x ∨ F1 x, w⟩ := ⟨fun x hx => ⟨⟨.inl hx, hlt x hx⟩, hw.frz x hx⟩⟩
 refine ⟨A, c, ⟨fun x => z.In x ∨ F1 x, w⟩, h1, h2, hle, fun hn => ?_, F2, k2, ?_⟩
 ·obtain ⟨b, o, e1, hc⟩ := h3 hn
  subst e1
  have hb : F1 b := (hF1 b).2 (by rw [h1]; rfl)
  exact ⟨b, o, rfl, ⟨.inr hb, hlt1 b hb⟩, fun i u hu => by have := hc i u hu; simpa using this⟩
 ·refine ⟨hw.os, hw.tape, hw.output, hw.size, Nat.le_refl _, fun _ _ => rfl, ?_, hw.unt, fun x hx => hw.own x ((kF x).2 (.inr hx)), ?_, Zc.trans' hw.zle hle⟩
  ·rintro x hx ⟨h | h, _⟩
   ·exact hw.dis x ((kF x).2 (.inr hx)) h
   ·exact kd x h hx
  ·rintro x ⟨h | h, _⟩
   ·exact hw.zin x h
   ·rcases hw.own x ((kF x).2 (.inl h)) with h | h
    ·exact .inr (.inl h)
    ·exact .inr (.inr h)
theorem Sat.freezeRow {C : Ctx} {ρ : Nm} {s : St} {a : Act} {w : World} {k e sz n : Nat} {v : Value} {cs : List Value} (h : Sat C ρ s a w) (hk : look k s.L = some (.own (rowA e sz v n cs))) :
  ∃ A c z', v = .slice A n c ∧ n ≤ c ∧ s.z ≤ z' ∧ RdAt z' A 0 cs ∧ Sat C ρ ⟨s.t, del k s.L, z', s.n⟩ a w := by
 obtain ⟨A, c, z', h1, h2, h3, h4, h5⟩ := h.mem.freezeRow hk
 exact ⟨A, c, z', h1, h2, h3, h4, h.df, h.fr, h.nm, h5⟩
section
variable {P : Program} {s : St} {K : St → Prop} {o : Oper} {f : FuncId} {args : List Operand} {d : Option Nat} {e sz n : Nat} {v : Value} {cs : List Value}
theorem Cov.freezeRow {X : List Nat} {B : Nat → Prop} {ρ : Nm} {k : Nat} (hk : look k s.L = some (.own (rowA e sz v n cs))) {z' : Zc} (hz : s.z ≤ z') (h : Cov X B ρ s) : Cov X B ρ ⟨s.t, del k s.L, z', s.n⟩ := fun b hb => by
 rcases h b hb with h | ⟨j, e', cs', h1, h2, h3⟩
 ·exact .inl (hz.to b h).1
 ·by_cases hj : j = k
  ·subst hj; rw [hk] at h1; injection h1 with h1; cases h1
  ·exact .inr ⟨j, e', cs', by show look j (del k s.L) = _; rw [look_del hj]; exact h1, h2, h3⟩
theorem opM.frzR (k : Nat) (hk : look k s.L = some (.own (rowA e sz v n cs))) (h : ∀ A c z', v = .slice A n c → n ≤ c → s.z ≤ z' → RdAt z' A 0 cs → opM P o ⟨s.t, del k s.L, z', s.n⟩ K) : opM P o s K := fun C ρ a w Q hs => by
 obtain ⟨A, c, z', h1, h2, h3, h4, h5⟩ := hs.freezeRow hk
 refine Oper.wp_mono ?_ (h A c z' h1 h2 h3 h4 C ρ a w Q h5)
 rintro a' w' ⟨s', ρ', k1, k2, k3⟩
 exact ⟨s', ρ', k1, k2, k3.pre, Zc.trans' h3 k3.zle, fun X B hB => k3.keep X B (hB.freezeRow hk h3)⟩
theorem callM.frzR (k : Nat) (hk : look k s.L = some (.own (rowA e sz v n cs))) (h : ∀ A c z', v = .slice A n c → n ≤ c → s.z ≤ z' → RdAt z' A 0 cs → callM P f args d ⟨s.t, del k s.L, z', s.n⟩ K) : callM P f args d s K :=
 fun o h1 h2 => opM.frzR k hk fun A c z' g1 g2 g3 g4 => h A c z' g1 g2 g3 g4 o h1 h2
theorem opT.frzR (k : Nat) (hk : look k s.L = some (.own (rowA e sz v n cs))) (h : ∀ A c z', v = .slice A n c → n ≤ c → s.z ≤ z' → RdAt z' A 0 cs → opT P o ⟨s.t, del k s.L, z', s.n⟩ K) : opT P o s K := fun C ρ a w Q hs => by
 obtain ⟨A, c, z', h1, h2, h3, h4, h5⟩ := hs.freezeRow hk
 refine Oper.wp_mono ?_ (h A c z' h1 h2 h3 h4 C ρ a w Q h5)
 rintro a' w' ⟨s', ρ', k1, k2, k3, k4⟩
 exact ⟨s', ρ', k1, k2, k3, Zc.trans' h3 k4⟩
theorem callT.frzR (k : Nat) (hk : look k s.L = some (.own (rowA e sz v n cs))) (h : ∀ A c z', v = .slice A n c → n ≤ c → s.z ≤ z' → RdAt z' A 0 cs → callT P f args d ⟨s.t, del k s.L, z', s.n⟩ K) : callT P f args d s K :=
 fun o h1 h2 => opT.frzR k hk fun A c z' g1 g2 g3 g4 => h A c z' g1 g2 g3 g4 o h1 h2
theorem VS.frzR {G : St → Prop} (k : Nat) (hk : look k s.L = some (.own (rowA e sz v n cs))) (h : ∀ A c z', v = .slice A n c → n ≤ c → s.z ≤ z' → RdAt z' A 0 cs → VS ⟨s.t, del k s.L, z', s.n⟩ G) : VS s G := fun C ρ a w hs => by
 obtain ⟨A, c, z', h1, h2, h3, h4, h5⟩ := hs.freezeRow hk
 exact h A c z' h1 h2 h3 h4 C ρ a w h5
theorem FinV.frzR {fr : List FR} {R : Value → Zc → Asrt → Prop} (k : Nat) (hk : look k s.L = some (.own (rowA e sz v n cs))) (h : ∀ A c z', v = .slice A n c → n ≤ c → s.z ≤ z' → RdAt z' A 0 cs → FinV fr ⟨s.t, del k s.L, z', s.n⟩ R) : FinV fr s R := fun C ρ a w hs => by
 obtain ⟨A, c, z', h1, h2, h3, h4, h5⟩ := hs.freezeRow hk
 exact h A c z' h1 h2 h3 h4 C ρ a w h5
end
theorem run_append_zero {P : Program} (t ty e : TypeId) (i : TypeInfo) (ht : P.underlying t = some (.slice e)) (hi : P.info? e = some i) (w : World) (A0 A : Option Addr) (n c0 c : Nat) (h : n ≤ c0) : (Builtin.append_ #[t, t] ty #[.slice A0 n c0, .slice A 0 c]).run P w = .ok (.slice A0 n c0) w := by
 cases A0 <;> cases A <;> simp [Builtin.append_, run_underlying ht, sizeOf, typeInfo, hi, Builtin.lenOf, Builtin.firstCells, h, storeCells, loadCells, loadCellsFrom]
section
variable {P : Program} {s : St} {K : St → Prop}
theorem app_full {t e sz : Nat} {x y : Operand} (ht : AppTy P t e sz) {o : Oper} (ho : tr P o.op = .app t x y) {C : Ctx} {ρ : Nm} {a : Act} {w : World} {Q : Exit → Act → World → Prop} (h : Sat C ρ s a w) {A0 : Option Addr} {n : Nat} {cs : List Value} (hxv : a.eval x = .slice A0 n n) (hr0 : Rd w A0 cs) (hz0 : RdAt s.z A0 0 cs) (hl0 : cs.length = n * sz)
  {A : Option Addr} {m c : Nat} {news : List Value} (hyv : a.eval y = .slice A m c) (hr : Rd w A news) (hl : news.length = m * sz) (h1 : ∀ u ∈ news, u.oneCell' = true) (hb : n + m ≤ 1000000000) (j9 : Nat) (hj9 : look j9 s.L = none)
  (hK : ∀ A' c' z', s.z ≤ z' → n + m ≤ c' → RdAt z' A' 0 (cs ++ news) → K ⟨stO s.t o.dst (.c (.v (.slice A' (n + m) c'))), s.L, z', s.n⟩) : o.wp P a w (fun a' w' => ∃ s' ρ', K s' ∧ Sat C ρ' s' a' w' ∧ Stp ρ s w ρ' s' w') Q := by
 obtain ⟨i, z0, i1, i2, i3, i4, i5⟩ := ht.inf
 by_cases hm : m = 0
 ·subst hm
  have hn : news = [] := List.eq_nil_of_length_eq_zero (by simpa using hl)
  subst hn
  refine wp_value (run_app ho (by rw [hxv, hyv]; exact run_append_zero t _ e i ht.und i1 w A0 A n n c (Nat.le_refl n))) ⟨_, ρ, hK A0 n s.z (Zc.rfl' _) (by omega) (by simpa using hz0), h.put o.dst ?_, Stp.same⟩
  rfl
 ·have hne : news ≠ [] := by
   intro e'; subst e'; simp only [List.length_nil] at hl
   rcases Nat.mul_eq_zero.1 hl.symm with h' | h'
   ·exact hm h'
   ·have := ht.pos; omega
  obtain ⟨b, ob, rfl, hc⟩ := hr hne
  obtain ⟨F, f1, f2⟩ := h.mem
  have hrun : ∃ v' w', (Builtin.append_ #[t, t] o.type #[a.eval x, a.eval y]).run P w = .ok v' w' ∧ Row w' e sz v' (n + m) (cs ++ news) ∧ w.grownBy w' none ∧ ∀ g, v'.ownBlock = some g → w.heap.size ≤ g := by
   rw [hxv, hyv]
   cases A0 with
   | none =>
    have hcs : cs = [] := by
     rcases cs with _ | ⟨u, us⟩
     ·rfl
     ·obtain ⟨_, _, e', _⟩ := hr0 (by simp); cases e'
    subst hcs
    have hn0 : n = 0 := by
     rcases Nat.mul_eq_zero.1 (show n * sz = 0 by simpa using hl0.symm) with h' | h'
     ·exact h'
     ·have := ht.pos; omega
    subst hn0
    obtain ⟨v', w', k1, k2, k3, _, k5⟩ := run_append_own_at (P := P) w w.heap.size t o.type e i z0 sz i.bytes ht.und i1 i2 i3 rfl i5 ht.pos (.slice none 0 0) 0 [] (World.ownsRow_nil w _ e sz) ⟨b, ob, none⟩ m c news hl (fun j u hu => by rw [add_at]; exact hc j u hu) h1 (by simp only [maxLen]; omega) (by have := Nat.mul_le_mul hb i4; omega) (Nat.le_refl _)
    refine ⟨v', w', k1, Row.of_own k2, k3, fun g hg => ?_⟩
    rcases k5 with e' | e'
    ·rw [e'] at hg; cases hg
    ·rw [e'] at hg; injection hg with hg; omega
   | some a0 =>
    have hold : ∀ j u, cs[j]? = some u → w.cell? (a0.add j) = some u := fun j u hu => by
     obtain ⟨b0, o0, e0, h0⟩ := hr0 (by intro e'; rw [e'] at hu; simp at hu)
     injection e0 with e0
     subst e0
     rw [add_at]
     exact h0 j u hu
    obtain ⟨v', w', k1, k2, k3⟩ := run_append_arg_grows (P := P) w t o.type e i z0 sz i.bytes ht.und i1 i2 i3 rfl i5 ht.pos a0 n n cs hl0 hold ⟨b, ob, none⟩ m c news hl (fun j u hu => by rw [add_at]; exact hc j u hu) (by omega) (by simp only [maxLen]; omega) (by have := Nat.mul_le_mul hb i4; omega)
    refine ⟨v', w', k1, Row.of_own k2, k3, fun g hg => ?_⟩
    rcases k2.2 with ⟨e', _⟩ | ⟨g', cap, cur, e', hg', _⟩
    ·rw [e'] at hg; cases hg
    ·rw [e'] at hg; simp [Value.ownBlock] at hg; omega
  obtain ⟨v', w', hrun, r1, r2, r3⟩ := hrun
  have hW : WOk ⟨w, fun _ => False, s.z⟩ s.z (fun b => v'.ownBlock = some b) w' := by
   refine ⟨r2.os, r2.tape, r2.output, r2.size, Nat.le_trans f2.zsize r2.size, fun b hb => ?_, fun b hb hz => ?_, fun b hb hf => ?_, fun b hb => ?_, fun b hb => .inl hb, Zc.rfl' _⟩
   ·exact (r2.block b (Nat.lt_of_lt_of_le hb.2 f2.zsize) (fun e => by cases e)).trans (f2.frz b hb)
   ·have := r3 b hb; have := Nat.lt_of_lt_of_le hz.2 f2.zsize; omega
   ·exact r2.block b hb (fun e => by cases e)
   ·exact .inr (r3 b hb)
  obtain ⟨hS, hP⟩ := own_after (d := o.dst) (k := j9) (sv := .c (.v v')) (v := v') (A := emp) (A' := rowA e sz v' (n + m) (cs ++ news)) (L := s.L) (F1 := fun _ => False) (F2 := F) h f1 f2 (fun _ h => h) f1 (fun _ h => h.elim) (fun b => by simp)
   (fun _ _ _ h => h) (fun e cs => by rw [hj9]; simp) ⟨r1, fun _ => Iff.rfl⟩ hW rfl
  obtain ⟨A', c', z', q1, q2, q3, q4, q5⟩ := hS.freezeRow (k := j9) (by show (if j9 = j9 then _ else _) = _; rw [if_pos rfl])
  subst q1
  refine wp_value (run_app ho hrun) ⟨_, ρ, hK A' c' z' q3 q2 q4, ?_, hP.pre, q3, fun X B hB => ⟨(hP.keep X B hB).1, fun b hb => ?_⟩⟩
  ·have hdel : del j9 ((j9, Ent.own (rowA e sz (.slice A' (n + m) c') (n + m) (cs ++ news))) :: s.L) = s.L := by show (if j9 = j9 then _ else _) = _; rw [if_pos rfl]
   rw [hdel] at q5; exact q5
  ·rcases hB b hb with g | ⟨j, e', cs', g1, g2, g3⟩
   ·exact .inl (q3.to b g).1
   ·exact .inr ⟨j, e', cs', g1, g2, g3⟩
theorem appM_full {t e sz : Nat} {x y : Operand} {d : Option Nat} (ht : AppTy P t e sz) {A0 : Option Addr} {n : Nat} {cs : List Value} (hx : ev s.t x = .c (.v (.slice A0 n n))) (hr0 : RdAt s.z A0 0 cs) (hl0 : cs.length = n * sz)
  {m : Nat} {news : List Value} (hy : ∀ C ρ a w, Sat C ρ s a w → ∃ A c, a.eval y = .slice A m c ∧ Rd w A news) (hl : news.length = m * sz) (h1 : ∀ u ∈ news, u.oneCell' = true) (hb : n + m ≤ 1000000000) (j9 : Nat) (hj9 : look j9 s.L = none)
  (hK : ∀ A' c' z', s.z ≤ z' → n + m ≤ c' → RdAt z' A' 0 (cs ++ news) → K ⟨stO s.t d (.c (.v (.slice A' (n + m) c'))), s.L, z', s.n⟩) : appM P t x y d s K := fun o ho hd C ρ a w Q h => by
 subst hd
 obtain ⟨A, c, hyv, hr⟩ := hy C ρ a w h
 exact app_full ht ho h (by have := ev_den h.fr x; rw [hx] at this; exact this) (hr0.rd h.mem) hr0 hl0 hyv hr hl h1 hb j9 hj9 hK
theorem appM_fullR (j9 : Nat) {t e sz : Nat} {x y : Operand} {d : Option Nat} (ht : AppTy P t e sz) (hj9 : look j9 s.L = none) {A0 : Option Addr} {n : Nat} {cs : List Value} (hx : ev s.t x = .c (.v (.slice A0 n n))) (hr0 : RdAt s.z A0 0 cs) (hl0 : cs.length = n * sz)
  {A : Option Addr} {m c : Nat} {news : List Value} (hy : ev s.t y = .c (.v (.slice A m c))) (hr : RdAt s.z A 0 news) (hl : news.length = m * sz) (h1 : ∀ u ∈ news, u.oneCell' = true) (hb : n + m ≤ 1000000000)
  (hK : ∀ A' c' z', s.z ≤ z' → n + m ≤ c' → RdAt z' A' 0 (cs ++ news) → K ⟨stO s.t d (.c (.v (.slice A' (n + m) c'))), s.L, z', s.n⟩) : appM P t x y d s K :=
 appM_full ht hx hr0 hl0 (fun C ρ a w h => ⟨A, c, (by have := ev_den h.fr y; rw [hy] at this; exact this), hr.rd h.mem⟩) hl h1 hb j9 hj9 hK
theorem appM_fullN (j9 : Nat) {t e sz : Nat} {x y : Operand} {d : Option Nat} (ht : AppTy P t e sz) (hj9 : look j9 s.L = none) {A0 : Option Addr} {n : Nat} {cs : List Value} (hx : ev s.t x = .c (.v (.slice A0 n n))) (hr0 : RdAt s.z A0 0 cs) (hl0 : cs.length = n * sz)
  {j m c e' : Nat} {cj : List SC} {news : List Value} (hy : ev s.t y = .c (.s j 0 m c)) (hj : look j s.L = some (.cells e' cj)) (hcj : allV cj = some news) (hl : news.length = m * sz) (h1 : ∀ u ∈ news, u.oneCell' = true) (hb : n + m ≤ 1000000000)
  (hK : ∀ A' c' z', s.z ≤ z' → n + m ≤ c' → RdAt z' A' 0 (cs ++ news) → K ⟨stO s.t d (.c (.v (.slice A' (n + m) c'))), s.L, z', s.n⟩) : appM P t x y d s K :=
 appM_full ht hx hr0 hl0 (fun C ρ a w h => by
  have hyd := ev_den h.fr y
  rw [hy] at hyd
  obtain ⟨b, hb1, hb2⟩ := hyd
  obtain ⟨b', vs, g1, g2, g3⟩ := h.mem.cells hj
  rw [hb1] at g1; injection g1 with g1; subst g1
  exact ⟨_, _, hb2, fun _ => ⟨b, 0, rfl, fun i u hu => by rw [cell_of_row _ _ _ _ _ _ g3, allV_den hcj g2]; simpa using hu⟩⟩) hl h1 hb j9 hj9 hK
theorem appM_empty (j9 : Nat) {t e sz : Nat} {x y : Operand} {d : Option Nat} (ht : AppTy P t e sz) (hj9 : look j9 s.L = none) (hx : (∃ A0, ev s.t x = .c (.v (.slice A0 0 0))) ∨ ∃ j o, ev s.t x = .c (.s j o 0 0))
  {A : Option Addr} {m c : Nat} {news : List Value} (hy : ev s.t y = .c (.v (.slice A m c))) (hr : RdAt s.z A 0 news) (hl : news.length = m * sz) (h1 : ∀ u ∈ news, u.oneCell' = true) (hb : m ≤ 1000000000)
  (hK : ∀ A' c' z', s.z ≤ z' → m ≤ c' → RdAt z' A' 0 news → K ⟨stO s.t d (.c (.v (.slice A' m c'))), s.L, z', s.n⟩) : appM P t x y d s K := fun o ho hd C ρ a w Q h => by
 subst hd
 obtain ⟨A0, hxv⟩ : ∃ A0, a.eval x = .slice A0 0 0 := by
  have hxd := ev_den h.fr x
  rcases hx with ⟨A0, hx⟩ | ⟨j, o', hx⟩
  ·rw [hx] at hxd; exact ⟨A0, hxd⟩
  ·rw [hx] at hxd; obtain ⟨b, _, hb2⟩ := hxd; exact ⟨_, hb2⟩
 exact app_full ht ho h hxv (Rd.nil _ _) (RdAt.nil _ _ _) (by simp) (by have := ev_den h.fr y; rw [hy] at this; exact this) (hr.rd h.mem) hl h1 (by omega) j9 hj9 (fun A' c' z' g1 g2 g3 => by
  have := hK A' c' z' g1 (by omega) g3
  rw [Nat.zero_add]; exact this)
theorem VS.toRow {G : St → Prop} (k j : Nat) {e sz m c : Nat} {cs : List SC} {vs : List Value} (hk : look j s.L = some (.cells e cs)) (hv : allV cs = some vs) (hl : vs.length = m * sz) (hm : m ≤ 1000000000)
  (h : ∀ b, G ⟨s.t.map (subV j b), (k, .own (rowA e sz (.slice (some ⟨b, 0, none⟩) m m) m vs)) :: subL j b (del j s.L), s.z, s.n⟩) : VS s G := fun C ρ a w hs => by
 obtain ⟨F, hh, hw⟩ := hs.mem
 obtain ⟨F1, F2, ⟨b, us, a1, a2, a3, a4⟩, k2, kd, kF⟩ := hh.pick hk
 have hus := allV_den hv a2
 subst hus
 refine ⟨_, ρ, h b, hs.df, hs.fr.map_left (subV_den a1), hs.nm, F, ⟨F1, F2, ⟨⟨hl, .inr ⟨b, 0, m, us.toArray, rfl, a3, Nat.le_refl _, by simp only [maxLen]; omega, by simp [hl], by simp [← hl]⟩⟩, fun x => ?_⟩, subL_holds a1 k2, kd, kF⟩, hw⟩
 rw [a4 x]
 simp only [Value.ownBlock, Option.some.injEq]
 exact eq_comm
end
/-! Another view of the same. -/
structure Tf (s s' : St) : Prop where
 sat : ∀ {C ρ a w}, Sat C ρ s a w → Sat C ρ s' a w
 z : s.z = s'.z
 cov : ∀ {X B ρ}, Cov X B ρ s → Cov X B ρ s'
section
variable {P : Program} {s s' : St} {K : St → Prop} {o : Oper} {f : FuncId} {args : List Operand} {d : Option Nat}
theorem Tf.trans {s'' : St} (h : Tf s s') (k : Tf s' s'') : Tf s s'' := ⟨fun x => k.sat (h.sat x), h.z.trans k.z, fun x => k.cov (h.cov x)⟩
theorem opM.tf (t : Tf s s') (h : opM P o s' K) : opM P o s K := fun C ρ a w Q hs => by
 refine Oper.wp_mono ?_ (h C ρ a w Q (t.sat hs))
 rintro a' w' ⟨s1, ρ', k1, k2, k3⟩
 exact ⟨s1, ρ', k1, k2, k3.pre, t.z ▸ k3.zle, fun X B hB => k3.keep X B (t.cov hB)⟩
theorem opT.tf (t : Tf s s') (h : opT P o s' K) : opT P o s K := fun C ρ a w Q hs => by
 refine Oper.wp_mono ?_ (h C ρ a w Q (t.sat hs))
 rintro a' w' ⟨s1, ρ', k1, k2, k3, k4⟩
 exact ⟨s1, ρ', k1, k2, k3, t.z ▸ k4⟩
theorem callM.tf (t : Tf s s') (h : callM P f args d s' K) : callM P f args d s K := fun o h1 h2 => (h o h1 h2).tf t
theorem callT.tf (t : Tf s s') (h : callT P f args d s' K) : callT P f args d s K := fun o h1 h2 => (h o h1 h2).tf t
theorem appM.tf {ty : TypeId} {x y : Operand} (t : Tf s s') (h : appM P ty x y d s' K) : appM P ty x y d s K := fun o h1 h2 => (h o h1 h2).tf t
theorem stoV.tf {sz : Nat} {x y : Operand} (t : Tf s s') (h : stoV P x y sz d s' K) : stoV P x y sz d s K := fun o h1 h2 => (h o h1 h2).tf t
theorem othM.tf {op : Op} (t : Tf s s') (h : othM P op d s' K) : othM P op d s K := fun o h1 h2 => (h o h1 h2).tf t
theorem othT.tf {op : Op} (t : Tf s s') (h : othT P op d s' K) : othT P op d s K := fun o h1 h2 => (h o h1 h2).tf t
theorem othM.toT {op : Op} (h : othM P op d s K) : othT P op d s K := fun o h1 h2 => (h o h1 h2).toT
theorem VS.tf {G : St → Prop} (t : Tf s s') (h : VS s' G) : VS s G := fun C ρ a w hs => h C ρ a w (t.sat hs)
theorem FinV.tf {fr : List FR} {R : Value → Zc → Asrt → Prop} (t : Tf s s') (h : FinV fr s' R) : FinV fr s R := fun C ρ a w hs => h C ρ a w (t.sat hs)
theorem Tf.mk' {L' : Ents} (hh : ∀ {ρ w F}, Holds ρ w s.L F → Holds ρ w L' F) (hc : ∀ {j e cs}, look j s.L = some (.cells e cs) → look j L' = some (.cells e cs)) : Tf s ⟨s.t, L', s.z, s.n⟩ :=
 ⟨fun hs => by obtain ⟨F, h1, h2⟩ := hs.mem; exact ⟨hs.df, hs.fr, hs.nm, F, hh h1, h2⟩, rfl, fun hB b hb => by
  rcases hB b hb with g | ⟨j, e, cs, g1, g2, g3⟩
  ·exact .inl g
  ·exact .inr ⟨j, e, cs, hc g1, g2, g3⟩⟩
theorem Tf.own (k : Nat) {A A' : Asrt} (hk : look k s.L = some (.own A)) (hk' : look k (del k s.L) = none) (h : ∀ w F, A.holds w F → A'.holds w F) : Tf s ⟨s.t, (k, .own A') :: del k s.L, s.z, s.n⟩ :=
 Tf.mk' (fun hh => by obtain ⟨F1, F2, g1, g2⟩ := hh.pick hk; exact ⟨F1, F2, h _ _ g1, g2⟩) fun {j e cs} hj => by
  by_cases e' : k = j
  ·subst e'; rw [hk] at hj; injection hj with hj; cases hj
  ·show (if k = j then _ else _) = _
   rw [if_neg e', look_del (fun e => e' e.symm)]; exact hj
end
/-! Several of one's own as one. -/
def starA (A B : Asrt) : Asrt where
 holds w F := ∃ F1 F2, A.holds w F1 ∧ B.holds w F2 ∧ (∀ b, F1 b → ¬ F2 b) ∧ ∀ b, F b ↔ F1 b ∨ F2 b
 loc := fun ⟨F1, F2, h1, h2, hd, hF⟩ hk => ⟨F1, F2, A.loc h1 (fun b hb => hk b ((hF b).2 (.inl hb))), B.loc h2 (fun b hb => hk b ((hF b).2 (.inr hb))), hd, hF⟩
 dom := fun ⟨F1, F2, h1, h2, hd, hF⟩ hb => ((hF _).1 hb).elim (A.dom h1) (B.dom h2)
def starL : List Asrt → Asrt
 | [] => emp
 | A :: As => starA A (starL As)
def popL : List Nat → Ents → Option (List Asrt × Ents)
 | [], L => some ([], L)
 | k :: ks, L => match look k L with
  | some (.own A) => match popL ks (del k L) with
   | some (As, L') => some (A :: As, L')
   | none => none
  | _ => none
def zipL : List Nat → List Asrt → Ents → Ents
 | k :: ks, A :: As, L => (k, .own A) :: zipL ks As L
 | _, _, L => L
theorem Holds.split2 {ρ : Nm} {w : World} {L : Ents} {A : Asrt} {As : List Asrt} {k : Nat} {F : Nat → Prop} (h : Holds ρ w ((k, .own (starL (A :: As))) :: L) F) : ∃ F1 F2, A.holds w F1 ∧ Holds ρ w ((k, .own (starL As)) :: L) F2 ∧ (∀ b, F1 b → ¬ F2 b) ∧ ∀ b, F b ↔ F1 b ∨ F2 b := by
 obtain ⟨G1, G2, ⟨F1, F2, h1, h2, hd, hF⟩, g2, gd, gF⟩ := h
 refine ⟨F1, fun b => F2 b ∨ G2 b, h1, ⟨F2, G2, h2, g2, fun b hb => gd b ((hF b).2 (.inr hb)), fun b => Iff.rfl⟩, fun b hb hg => hg.elim (hd b hb) (gd b ((hF b).2 (.inl hb))), fun b => ?_⟩
 rw [gF b, hF b, or_assoc]
theorem Holds.join2 {ρ : Nm} {w : World} {L : Ents} {A : Asrt} {As : List Asrt} {k : Nat} {F F1 F2 : Nat → Prop} (h1 : A.holds w F1) (h : Holds ρ w ((k, .own (starL As)) :: L) F2) (hd : ∀ b, F1 b → ¬ F2 b) (hF : ∀ b, F b ↔ F1 b ∨ F2 b) : Holds ρ w ((k, .own (starL (A :: As))) :: L) F := by
 obtain ⟨G1, G2, g1, g2, gd, gF⟩ := h
 refine ⟨fun b => F1 b ∨ G1 b, G2, ⟨F1, G1, h1, g1, fun b hb hg => hd b hb ((gF b).2 (.inl hg)), fun b => Iff.rfl⟩, g2, fun b hb hg => hb.elim (fun x => hd b x ((gF b).2 (.inr hg))) (fun x => gd b x hg), fun b => ?_⟩
 rw [hF b, gF b, or_assoc]
theorem Holds.pack {ρ : Nm} {w : World} (k0 : Nat) : ∀ {ks : List Nat} {L L' : Ents} {As : List Asrt} {F : Nat → Prop}, popL ks L = some (As, L') → Holds ρ w L F → Holds ρ w ((k0, .own (starL As)) :: L') F
 | [], L, L', As, F, h, hh => by
  injection h with h
  cases h
  exact hh.emp k0
 | k :: ks, L, L', As, F, h, hh => by
  unfold popL at h
  split at h
  ·rename_i A hA
   split at h
   ·rename_i As' L2 hp
    injection h with h
    cases h
    obtain ⟨F1, F2, g1, g2, gd, gF⟩ := hh.pick hA
    exact Holds.join2 g1 (Holds.pack k0 hp g2) gd gF
   ·cases h
  ·cases h
theorem popL_look : ∀ {ks : List Nat} {L L' : Ents} {As : List Asrt}, popL ks L = some (As, L') → ∀ {j e cs}, look j L = some (.cells e cs) → look j L' = some (.cells e cs)
 | [], L, L', As, h, j, e, cs, hj => by
  injection h with h
  cases h
  exact hj
 | k :: ks, L, L', As, h, j, e, cs, hj => by
  unfold popL at h
  split at h
  ·rename_i A hA
   split at h
   ·rename_i As' L2 hp
    injection h with h
    cases h
    refine popL_look hp ?_
    by_cases e' : j = k
    ·subst e'; rw [hA] at hj; injection hj with hj; cases hj
    ·rw [look_del e']; exact hj
   ·cases h
  ·cases h
theorem Tf.pack {s : St} (k0 : Nat) (ks : List Nat) {L' : Ents} {As : List Asrt} (h : popL ks s.L = some (As, L')) (h0 : look k0 L' = none) : Tf s ⟨s.t, (k0, .own (starL As)) :: L', s.z, s.n⟩ :=
 Tf.mk' (fun hh => hh.pack k0 h) fun {j e cs} hj => by
  have := popL_look h hj
  show (if k0 = j then _ else _) = _
  rw [if_neg (fun e => by subst e; rw [h0] at this; cases this)]
  exact this
theorem Holds.open' {ρ : Nm} {w : World} {k : Nat} : ∀ {ks : List Nat} {L : Ents} {As : List Asrt} {F : Nat → Prop}, ks.length = As.length → Holds ρ w ((k, .own (starL As)) :: L) F → Holds ρ w (zipL ks As L) F
 | [], L, [], F, _, h => by
  obtain ⟨F1, F2, h1, h2, hd, hF⟩ := h
  refine h2.iff fun b => ?_
  rw [hF b]
  exact ⟨.inr, fun h => h.elim (fun x => absurd x (h1 b)) id⟩
 | k' :: ks, L, A :: As, F, hl, h => by
  obtain ⟨F1, F2, h1, h2, hd, hF⟩ := h.split2
  exact ⟨F1, F2, h1, Holds.open' (by simpa using hl) h2, hd, hF⟩
 | [], L, _ :: _, F, hl, h => by simp at hl
 | _ :: _, L, [], F, hl, h => by simp at hl
theorem zipL_look {j : Nat} : ∀ {ks : List Nat} {As : List Asrt} {L : Ents}, ks.length = As.length → j ∉ ks → look j (zipL ks As L) = look j L
 | [], [], L, _, _ => rfl
 | k :: ks, A :: As, L, hl, h => by
  show (if k = j then _ else _) = _
  rw [if_neg (fun e => h (by simp [e]))]
  exact zipL_look (by simpa using hl) (fun hm => h (by simp [hm]))
 | [], _ :: _, L, hl, _ => by simp at hl
 | _ :: _, [], L, hl, _ => by simp at hl
theorem Tf.open' {s : St} (k : Nat) (ks : List Nat) {As : List Asrt} (hk : look k s.L = some (.own (starL As))) (hl : ks.length = As.length) (hn : (ks.all fun j => (look j (del k s.L)).isNone) = true) : Tf s ⟨s.t, zipL ks As (del k s.L), s.z, s.n⟩ :=
 Tf.mk' (fun hh => Holds.open' hl (hh.pick hk)) fun {j e cs} hj => by
  have hjk : j ≠ k := fun e => by subst e; rw [hk] at hj; injection hj with hj; cases hj
  have : look j (del k s.L) = some (.cells e cs) := by rw [look_del hjk]; exact hj
  rw [zipL_look hl (fun hm => by
   have := List.all_eq_true.1 hn j hm
   simp_all)]
  exact this
/-! Rows. -/
theorem Row.store {w : World} {e sz n c b o' : Nat} {cs us : List Value} {off : Nat} (h : Row w e sz (.slice (some ⟨b, o', none⟩) n c) n cs) (hl : off + us.length ≤ cs.length) :
  ∃ cur, w.heap[b]? = some (.cells cur e (0, 0)) ∧ o' + off + us.length ≤ cur.size ∧ Row (w.setCells b (o' + off) us) e sz (.slice (some ⟨b, o', none⟩) n c) n (putV cs off us) := by
 rcases h.2 with ⟨e', _⟩ | ⟨g, o, cap, cur, e', h1, h2, h3, h4, h5⟩
 ·cases e'
 ·injection e' with e1 _ e2
  injection e1 with e1
  injection e1 with e1 e3
  subst e1; subst e2; subst e3
  have hcl := h.1
  have hns : n * sz ≤ c * sz := Nat.mul_le_mul_right _ h2
  have hfit : o' + off + us.length ≤ cur.size := by omega
  obtain ⟨cur', c1, c2⟩ := setCells_heap b e us (o' + off) w cur h1 hfit
  refine ⟨cur, h1, hfit, ⟨?_, .inr ⟨b, o', c, cur', rfl, c1, h2, h3, ?_, ?_⟩⟩⟩
  ·unfold putV; simp only [List.length_append, List.length_take, List.length_drop]; omega
  ·have := congrArg List.length c2
   simp only [Array.length_toList, List.length_append, List.length_take, List.length_drop] at this
   omega
  ·rw [c2]
   apply List.ext_getElem?
   intro i
   unfold putV
   have hcur : cs = (cur.toList.drop o').take (n * sz) := h5.symm
   by_cases hi : i < n * sz
   ·rw [List.getElem?_take_of_lt hi, List.getElem?_drop]
    by_cases h6 : i < off
    ·rw [List.append_assoc, List.getElem?_append_left (by simp; omega), List.getElem?_take_of_lt (by omega), List.getElem?_append_left (by simp; omega), List.getElem?_take_of_lt h6, hcur, List.getElem?_take_of_lt hi, List.getElem?_drop]
    ·by_cases h7 : i < off + us.length
     ·rw [List.append_assoc, List.getElem?_append_right (by simp; omega), List.getElem?_append_left (by simp; omega), List.getElem?_append_right (by simp; omega), List.getElem?_append_left (by simp; omega)]
      congr 1
      simp; omega
     ·rw [List.append_assoc, List.getElem?_append_right (by simp; omega), List.getElem?_append_right (by simp; omega), List.getElem?_append_right (by simp; omega), List.getElem?_append_right (by simp; omega), List.getElem?_drop, List.getElem?_drop, hcur, List.getElem?_take_of_lt (by simp; omega), List.getElem?_drop]
      congr 1
      simp; omega
   ·rw [List.getElem?_eq_none (by simp; omega), List.getElem?_eq_none (by simp only [List.length_append, List.length_take, List.length_drop]; omega)]
theorem Row.cut {w : World} {e sz n c : Nat} {A : Option Addr} {cs : List Value} (h : Row w e sz (.slice A n c) n cs) {l m c' : Nat} (hl : l ≤ m) (hm : m ≤ n) (hc1 : m ≤ c') (hc : c' ≤ c) : Row w e sz (.slice (cutA A c' l sz) (m - l) (c' - l)) (m - l) ((cs.drop (l * sz)).take ((m - l) * sz)) := by
 have hcl := h.1
 rcases h.2 with ⟨e', hn⟩ | ⟨g, o, cap, cur, e', h1, h2, h3, h4, h5⟩
 ·injection e' with e1 _ e2
  subst e1; subst e2; subst hn
  obtain rfl : c' = 0 := by omega
  obtain rfl : m = 0 := by omega
  obtain rfl : l = 0 := by omega
  refine ⟨by simp, .inl ⟨?_, rfl⟩⟩
  simp [cutA_zero]
 ·injection e' with e1 _ e2
  subst e1; subst e2
  have h6 : m * sz ≤ n * sz := Nat.mul_le_mul_right _ hm
  have h7 : l * sz ≤ m * sz := Nat.mul_le_mul_right _ hl
  have h8 : (m - l) * sz = m * sz - l * sz := Nat.sub_mul _ _ _
  have h9 : c' * sz ≤ c * sz := Nat.mul_le_mul_right _ hc
  have h10 : m * sz ≤ c' * sz := Nat.mul_le_mul_right _ hc1
  have h11 : (c' - l) * sz = c' * sz - l * sz := Nat.sub_mul _ _ _
  refine ⟨by simp only [List.length_take, List.length_drop]; omega, ?_⟩
  unfold cutA
  split
  ·rename_i hlc
   refine .inr ⟨g, o, c' - l, cur, rfl, h1, by omega, by omega, by omega, ?_⟩
   have : m - l = 0 := by omega
   rw [this]; simp
  ·refine .inr ⟨g, o + l * sz, c' - l, cur, by simp [add_at], h1, by omega, by omega, by omega, ?_⟩
   rw [← h5, List.drop_take, List.take_take, List.drop_drop]
   congr 1
   omega
section
variable {P : Program} {s : St} {K : St → Prop} {d : Option Nat}
theorem stoV_row (k : Nat) {x y : Operand} {szs e sz n c off : Nat} {A : Option Addr} {cs us : List Value} {ds : List SC} (hk : look k s.L = some (.own (rowA e sz (.slice A n c) n cs))) (hk' : look k (del k s.L) = none) (hx : ev s.t x = .c (.f A off))
  (hd : cellsOf (ev s.t y) = some ds) (h1 : ds.all SC.one = true) (hv : allV ds = some us) (h2 : ds.length = szs) (h3 : off + us.length ≤ cs.length)
  (hK : K ⟨stO s.t d unS, (k, .own (rowA e sz (.slice A n c) n (putV cs off us))) :: del k s.L, s.z, s.n⟩) : stoV P x y szs d s K := fun o ho hd' C ρ a w Q hs => by
 subst hd'
 obtain ⟨ty, agg, g1, g2⟩ := tr_sto ho
 have hxd := ev_den hs.fr x
 rw [hx] at hxd
 obtain ⟨b, o', rfl, hxv⟩ := hxd
 obtain ⟨k1, k2⟩ := cellsOf_den hd (ev_den hs.fr y) h1
 have hus : (a.eval y).cells.toList = us := allV_den hv k1
 have hl : us.length = ds.length := by rw [← hus, k1.length]
 have hsz : (a.eval y).cells.size = us.length := by rw [← hus]; simp
 obtain ⟨F, f1, f2⟩ := hs.mem
 obtain ⟨F1, F2, ⟨hrow, hF1⟩, q2, qd, qF⟩ := f1.pick hk
 obtain ⟨cur, r1, r2, r3⟩ := hrow.store h3
 have hb : F1 b := (hF1 b).2 rfl
 have hrun : (execOp a.eval o).run P w = .ok .skip (w.setCells b (o' + off) us) := by
  unfold execOp
  simp only [g1, hxv]
  have := run_storeAt (P := P) g2 r1 (v := a.eval y) (o := o' + off) (by omega) k2 (by omega)
  rw [hus] at this
  simp [this]
 have hos := setCells_os b us (o' + off) w
 have hW : WOk ⟨w, F1, s.z⟩ s.z F1 (w.setCells b (o' + off) us) := by
  refine ⟨hos.1, hos.2.1, hos.2.2, by rw [setCells_size]; exact Nat.le_refl _, by rw [setCells_size]; exact f2.zsize, fun v hv => ?_, fun v hv => f2.dis v ((qF v).2 (.inl hv)), fun v hv hf => ?_, fun v hv => .inl hv, fun v hv => .inl hv, Zc.rfl' _⟩
  ·rw [setCells_other b v (fun e => by subst e; exact f2.dis v ((qF v).2 (.inl hb)) hv)]; exact f2.frz v hv
  ·exact setCells_other b v (fun e => by subst e; exact hf hb) _ _ _
 obtain ⟨hS, hP⟩ := own_after (d := o.dst) (k := k) (sv := unS) (v := undef) (A := rowA e sz (.slice (some ⟨b, o', none⟩) n c) n cs) (A' := rowA e sz (.slice (some ⟨b, o', none⟩) n c) n (putV cs off us)) (L := del k s.L) hs f1 f2 ⟨hrow, hF1⟩ q2 qd qF
  (fun j e' cs' hj => by
   by_cases hjk : j = k
   ·subst hjk; rw [hk] at hj; injection hj with hj; cases hj
   ·rw [look_del hjk]; exact hj) (fun e' cs' => by rw [hk']; simp) ⟨r3, hF1⟩ hW rfl
 exact wp_skip' hrun ⟨_, ρ, hK, hS, hP.pre, hP.zle⟩
theorem Tf.cut (k : Nat) {e sz n c : Nat} {A : Option Addr} {cs : List Value} (hk : look k s.L = some (.own (rowA e sz (.slice A n c) n cs))) (hk' : look k (del k s.L) = none) (l m c' : Nat) (hl : l ≤ m) (hm : m ≤ n) (hc1 : m ≤ c') (hc : c' ≤ c) (hlc : l = 0 ∨ c' ≤ l ∨ IsAt A) :
  Tf s ⟨s.t, (k, .own (rowA e sz (.slice (cutA A c' l sz) (m - l) (c' - l)) (m - l) ((cs.drop (l * sz)).take ((m - l) * sz)))) :: del k s.L, s.z, s.n⟩ :=
 Tf.own k hk hk' fun w F h => ⟨h.1.cut hl hm hc1 hc, fun b => by
  rw [h.2 b]
  have : ∀ A : Option Addr, (Value.slice A n c).ownBlock = (Value.slice A (m - l) (c' - l)).ownBlock := fun A => by cases A <;> rfl
  unfold cutA
  split
  ·rw [this]
  ·cases A with
   | none => rfl
   | some a =>
    obtain ⟨b0, o0, x⟩ := a
    simp [Value.ownBlock, Addr.add]
    split <;> simp⟩
end
section
variable {P : Program} {s : St} {K : St → Prop} {d : Option Nat}
def rowSt (s : St) (k j b e sz m : Nat) (vs : List Value) : St := ⟨s.t.map (subV j b), (k, .own (rowA e sz (.slice (some ⟨b, 0, none⟩) m m) m vs)) :: subL j b (del j s.L), s.z, s.n⟩
theorem Sat.toRow {C : Ctx} {ρ : Nm} {a : Act} {w : World} (k j : Nat) {e sz m : Nat} {cs : List SC} {vs : List Value} (hk : look j s.L = some (.cells e cs)) (hv : allV cs = some vs) (hl : vs.length = m * sz) (hm : m ≤ 1000000000) (hs : Sat C ρ s a w) :
  ∃ b, ρ[j]? = some b ∧ Sat C ρ (rowSt s k j b e sz m vs) a w := by
 obtain ⟨F, hh, hw⟩ := hs.mem
 obtain ⟨F1, F2, ⟨b, us, a1, a2, a3, a4⟩, k2, kd, kF⟩ := hh.pick hk
 have hus := allV_den hv a2
 subst hus
 refine ⟨b, a1, hs.df, hs.fr.map_left (subV_den a1), hs.nm, F, ⟨F1, F2, ⟨⟨hl, .inr ⟨b, 0, m, us.toArray, rfl, a3, Nat.le_refl _, by simp only [maxLen]; omega, by simp [hl], by simp [← hl]⟩⟩, fun x => ?_⟩, subL_holds a1 k2, kd, kF⟩, hw⟩
 rw [a4 x]
 simp only [Value.ownBlock, Option.some.injEq]
 exact eq_comm
theorem opT.toRow {o : Oper} (k j : Nat) {e sz m : Nat} {cs : List SC} {vs : List Value} (hk : look j s.L = some (.cells e cs)) (hv : allV cs = some vs) (hl : vs.length = m * sz) (hm : m ≤ 1000000000) (h : ∀ b, opT P o (rowSt s k j b e sz m vs) K) : opT P o s K := fun C ρ a w Q hs => by
 obtain ⟨b, _, hs'⟩ := hs.toRow k j hk hv hl hm
 exact h b C ρ a w Q hs'
theorem appT.toRow {ty : TypeId} {x y : Operand} (k j : Nat) {e sz m : Nat} {cs : List SC} {vs : List Value} (hk : look j s.L = some (.cells e cs)) (hv : allV cs = some vs) (hl : vs.length = m * sz) (hm : m ≤ 1000000000) (h : ∀ b, appT P ty x y d (rowSt s k j b e sz m vs) K) : appT P ty x y d s K := fun o h1 h2 => opT.toRow k j hk hv hl hm fun b => h b o h1 h2
theorem appT.tf {s' : St} {ty : TypeId} {x y : Operand} (t : Tf s s') (h : appT P ty x y d s' K) : appT P ty x y d s K := fun o h1 h2 => (h o h1 h2).tf t
theorem Tf.nilRow (k e sz : Nat) (hk : look k s.L = none) : Tf s ⟨s.t, (k, .own (rowA e sz (.slice none 0 0) 0 [])) :: s.L, s.z, s.n⟩ :=
 Tf.mk' (fun {ρ w F} hh => ⟨fun _ => False, F, ⟨Row.nil w e sz, fun b => by simp [Value.ownBlock]⟩, hh, fun _ h => h.elim, fun b => by simp⟩) fun {j e cs} hj => by
  show (if k = j then _ else _) = _
  rw [if_neg (fun e => by subst e; rw [hk] at hj; cases hj)]; exact hj
end
/-! Closures. -/
def callOk (P : Program) (f : FuncId) : Bool := match P.funcs[f]? with
 | some fn => fn.body.isSome && !(fn.name == "runtime.NumGoroutine")
 | none => false
section
variable {P : Program} {s : St} {K : St → Prop} {d : Option Nat}
theorem oth_makeFunc {fn : Fn} {caps : Array Operand} {vs : List Value} (ha : argsV s.t caps.toList = some vs) (hK : K ⟨stO s.t d (.c (.v (.func fn #[] vs.toArray))), s.L, s.z, s.n⟩) : othM P (.makeFunc fn #[] caps) d s K := fun o ho hd C ρ a w Q hs => by
 subst hd
 have h1 : caps.map a.eval = vs.toArray := by rw [← argsV_den hs.fr ha]; apply Array.toList_inj.1; simp
 refine wp_value (w' := w) (v := .func fn #[] vs.toArray) ?_ ⟨_, ρ, hK, hs.put o.dst rfl, Stp.same⟩
 unfold execOp
 simp [ho, Instr.makeFunc, h1]
theorem oth_call {x : Operand} {cs : Array Operand} {tys : Array TypeId} {f : FuncId} {caps vs : List Value} {z0 : Zc} {R : Value → Zc → Prop} (hx : ev s.t x = .c (.v (.func (.func f) #[] caps.toArray))) (hf : callOk P f = true) (ha : argsV s.t cs.toList = some vs) (hz : s.z = z0)
  (hs : PSpec P f (vs ++ caps) z0 R) (hK : ∀ v z', z0 ≤ z' → R v z' → K ⟨stO s.t d (ofV v), s.L, z', s.n⟩) : othM P (.call (.mk (.value x) cs tys)) d s K := fun o ho hd C ρ a w Q h => by
 subst hd
 subst hz
 have hrun : (execOp a.eval o).run P w = .ok (.enter f (vs ++ caps).toArray) w := by
  have hxv : a.eval x = .func (.func f) #[] caps.toArray := by have := ev_den h.fr x; rw [hx] at this; exact this
  have h1 : cs.map a.eval = vs.toArray := by rw [← argsV_den h.fr ha]; apply Array.toList_inj.1; simp
  unfold callOk at hf
  split at hf
  ·rename_i fn hfn
   simp only [Bool.and_eq_true, Bool.not_eq_true', beq_eq_false_iff_ne] at hf
   obtain ⟨body, hb⟩ := Option.isSome_iff_exists.1 hf.1
   unfold execOp
   simp [ho, resolve, hxv, h1, Deferred.ofValue, invoke, callFunc, hfn, hf.2, hb]
  ·cases hf
 unfold Oper.wp
 rw [hrun]
 show Calls P f (vs ++ caps).toArray w _
 obtain ⟨F, h1, h2⟩ := h.mem
 have hw : WOk ⟨w, fun _ => False, s.z⟩ s.z (fun _ => False) w := WOk.start h2.zsize h2.frz (fun b hb => hb.elim)
 refine Calls.mono (hs w (fun _ => False) hw (fun _ h => h)) ?_
 rintro e w' ⟨v, z', A', F', rfl, ⟨rfl, k1⟩, k2, k3⟩
 obtain ⟨j9, hj9⟩ : ∃ j, look j s.L = none := by
  have : ∀ L : Ents, ∃ m, ∀ j, m ≤ j → look j L = none := fun L => by
   induction L with
   | nil => exact ⟨0, fun _ _ => rfl⟩
   | cons x L ih =>
    obtain ⟨m, hm⟩ := ih
    refine ⟨m + x.1 + 1, fun j hj => ?_⟩
    show (if x.1 = j then some x.2 else look j L) = none
    rw [if_neg (by omega)]
    exact hm j (by omega)
  obtain ⟨m, hm⟩ := this s.L
  exact ⟨m, hm m (Nat.le_refl m)⟩
 obtain ⟨hS, hP⟩ := own_after (d := o.dst) (k := j9) (sv := ofV v) (v := v) (A := emp) (A' := emp) (L := s.L) (F1 := fun _ => False) (F2 := F) h h1 h2 (fun _ h => h) h1 (fun _ h => h.elim) (fun b => by simp)
  (fun _ _ _ h => h) (fun e cs => by rw [hj9]; simp) k2 k3 (ofV_den ρ v)
 refine ⟨_, ρ, hK v z' k3.zle k1, ⟨hS.df, hS.fr, hS.nm, hS.mem.drop⟩, hP.pre, hP.zle, fun X B hB => ⟨(hP.keep X B hB).1, fun b hb => ?_⟩⟩
 rcases (hP.keep X B hB).2 b hb with g | ⟨j, e, cs, g1, g2, gX⟩
 ·exact .inl g
 ·refine .inr ⟨j, e, cs, ?_, g2, gX⟩
  have g1 : (if j9 = j then some (.own emp) else look j s.L) = some (.cells e cs) := g1
  split at g1
  ·injection g1 with g1; cases g1
  ·exact g1
theorem oth_makeSlice' (k : Nat) {t e sz n : Nat} {x y : Operand} {kx ky : IntKind} (ht : AppTy P t e sz) (hk : look k s.L = none) (hx : ev s.t x = .c (.v (.int kx n))) (hy : ev s.t y = .c (.v (.int ky n))) (hn : n ≤ 1000000) (hsz : n * sz ≤ 16000000)
  (hK : ∀ v z0, (∃ i, P.info? e = some i ∧ i.zero = some z0) → K ⟨stO s.t d (.c (.v v)), (k, .own (rowA e sz v n (madeCells z0.cells (n * sz)).toList)) :: s.L, s.z, s.n⟩) : othM P (.makeSlice t x y) d s K := fun o ho hd C ρ a w Q h => by
 subst hd
 obtain ⟨i, z0, i1, i2, i3, i4, i5⟩ := ht.inf
 have hxv : a.eval x = .int kx n := by have := ev_den h.fr x; rw [hx] at this; exact this
 have hyv : a.eval y = .int ky n := by have := ev_den h.fr y; rw [hy] at this; exact this
 obtain ⟨w', h1, h2, h3⟩ := run_makeSlice_full (P := P) (w := w) w.heap.size t e i z0 sz ht.und i1 i2 i3 kx ky n (by omega) (by have := Nat.mul_le_mul i4 hn; omega) (by simp only [maxLen]; omega) (Nat.le_refl _)
 have hrun : (execOp a.eval o).run P w = .ok (.value (.slice (some ⟨w.heap.size, 0, none⟩) n n)) w' := by
  unfold execOp
  simp [ho, hxv, hyv, h1]
 obtain ⟨F, f1, f2⟩ := h.mem
 have hW : WOk ⟨w, fun _ => False, s.z⟩ s.z (fun b => (Value.slice (some ⟨w.heap.size, 0, none⟩) n n).ownBlock = some b) w' := by
  refine ⟨h3.os, h3.tape, h3.output, h3.size, Nat.le_trans f2.zsize h3.size, fun b hb => ?_, fun b hb hz => ?_, fun b hb hf => ?_, fun b hb => ?_, fun b hb => .inl hb, Zc.rfl' _⟩
  ·exact (h3.block b (Nat.lt_of_lt_of_le hb.2 f2.zsize) (fun e => by cases e)).trans (f2.frz b hb)
  ·simp [Value.ownBlock] at hb; have := Nat.lt_of_lt_of_le hz.2 f2.zsize; omega
  ·exact h3.block b hb (fun e => by cases e)
  ·simp [Value.ownBlock] at hb; exact .inr (by show w.heap.size ≤ b; omega)
 obtain ⟨hS, hP⟩ := own_after (d := o.dst) (k := k) (sv := .c (.v (.slice (some ⟨w.heap.size, 0, none⟩) n n))) (A := emp) (A' := rowA e sz (.slice (some ⟨w.heap.size, 0, none⟩) n n) n (madeCells z0.cells (n * sz)).toList) (L := s.L) (F1 := fun _ => False) (F2 := F) h f1 f2 (fun _ h => h) f1 (fun _ h => h.elim) (fun b => by simp)
  (fun _ _ _ h => h) (fun e cs => by rw [hk]; simp) ⟨Row.of_own h2, fun _ => Iff.rfl⟩ hW rfl
 exact wp_value hrun ⟨_, ρ, hK _ z0 ⟨i, i1, i2⟩, hS, hP⟩
theorem oth_makeSlice (k : Nat) {t e sz n : Nat} {x y : Operand} {kx ky : IntKind} (ht : AppTy P t e sz) (hk : look k s.L = none) (hx : ev s.t x = .c (.v (.int kx n))) (hy : ev s.t y = .c (.v (.int ky n))) (hn : n ≤ 1000000) (hsz : sz ≤ 16)
  (hK : ∀ v z0, (∃ i, P.info? e = some i ∧ i.zero = some z0) → K ⟨stO s.t d (.c (.v v)), (k, .own (rowA e sz v n (madeCells z0.cells (n * sz)).toList)) :: s.L, s.z, s.n⟩) : othM P (.makeSlice t x y) d s K := oth_makeSlice' k ht hk hx hy hn (by have := Nat.mul_le_mul hn hsz; omega) hK
end
def wrR : IReg → List Nat
 | .done => []
 | .op _ _ (some d) _ r => d :: wrR r
 | .op _ _ none _ r => wrR r
 | .alt a b => wrR a ++ wrR b
def wrI : IC → List Nat
 | .reg _ r => wrR r
 | .join _ r => wrR r
 | .seq a b => wrI a ++ wrI b
 | .cond _ a b => wrI a ++ wrI b
 | .block _ b => wrI b
 | .loop b => wrI b
 | _ => []
def anyL : List Nat → List SV → List SV
 | [], t => t
 | d :: ds, t => anyL ds (st t d .any)
def updL : List (Nat × SV) → List SV → List SV
 | [], t => t
 | u :: us, t => updL us (st t u.1 u.2)
def loopK {ι : Type} (I : ι → Prop) (Inv : ι → St) (μ : ι → Nat) (K : Exit → St → Prop) (i : ι) : Exit → St → Prop
 | .normal, s => ∃ j, I j ∧ μ j < μ i ∧ Le s (Inv j)
 | e, s => K e s
section
variable {P : Program} {ic : IC} {s : St} {K : Exit → St → Prop} {ι : Type}
theorem loopK_normal {I : ι → Prop} {Inv : ι → St} {μ : ι → Nat} {i : ι} : loopK I Inv μ K i .normal s = ∃ j, I j ∧ μ j < μ i ∧ Le s (Inv j) := (rfl)
theorem loopK_exit {I : ι → Prop} {Inv : ι → St} {μ : ι → Nat} {i : ι} {x : Nat} : loopK I Inv μ K i (.exit x) s = K (.exit x) s := (rfl)
theorem loopK_ret {I : ι → Prop} {Inv : ι → St} {μ : ι → Nat} {i : ι} : loopK I Inv μ K i .ret s = K .ret s := (rfl)
theorem loop_upd {n : Nat} (I : ι → Prop) (upd : ι → List (Nat × SV)) (L : ι → Ents) (z : ι → Zc) (μ : ι → Nat) (i0 : ι) (hi : I i0) {T : List SV} (hT : anyL (wrI ic) s.t = T) (h0 : Le s ⟨updL (upd i0) T, L i0, z i0, n⟩)
  (hb : ∀ i, I i → vcI P ic ⟨updL (upd i) T, L i, z i, n⟩ (loopK I (fun i => ⟨updL (upd i) T, L i, z i, n⟩) μ K i)) : loopV P ic s K := by
 refine loop_rule (ι := {i : ι // I i}) (fun i => ⟨updL (upd i.1) T, L i.1, z i.1, n⟩) (fun i => μ i.1) ⟨i0, hi⟩ h0 fun i => ?_
 refine (congrArg (vcI P ic _) (funext fun e => funext fun s' => ?_)).mp (hb i.1 i.2)
 cases e with
 | normal => exact propext ⟨fun ⟨j, h1, h2, h3⟩ => ⟨⟨j, h1⟩, h2, h3⟩, fun ⟨j, h2, h3⟩ => ⟨j.1, j.2, h2, h3⟩⟩
 | _ => rfl
end
/-! Pointers in the frame; and what a walk may do where code begins. -/
def ptrF : SV → SV
 | .c (.v (.pointer (some ⟨b, o, none⟩))) => .c (.f (some ⟨b, o, none⟩) 0)
 | x => x
theorem ptrF_den {ρ : Nm} {x : SV} {v : Value} (h : x.den ρ v) : (ptrF x).den ρ v := by
 unfold ptrF
 split
 ·rename_i b o
  have h : v = _ := h
  subst h
  exact ⟨b, o, rfl, by simp⟩
 ·exact h
section
variable {P : Program} {ic : IC} {s : St} {K : Exit → St → Prop}
theorem vsI.ptr (h : vsI P ic K ⟨s.t.map ptrF, s.L, s.z, s.n⟩) : vsI P ic K s := fun C ρ a w hs =>
 h C ρ a w ⟨hs.df, hs.fr.map_left (fun _ _ h => ptrF_den h), hs.nm, hs.mem⟩
theorem vsI.tf {s' : St} (t : Tf s s') (h : vsI P ic K s') : vsI P ic K s := VS.tf t h
theorem vsI.frz (k : Nat) {e : TypeId} {cs : List SC} {vs : List Value} {z0 : Zc} (hk : look k s.L = some (.cells e cs)) (hv : allV cs = some vs) (hz : s.z = z0) (h : ∀ b z', z0 ≤ z' → RdAt z' (some ⟨b, 0, none⟩) 0 vs → vsI P ic K (Go.Proofs.YtllafcmkppmdgaaGreat.frz s k b z')) : vsI P ic K s := by subst hz; exact VS.frz k hk hv h
theorem vsI.frzR (k : Nat) {e sz n : Nat} {v : Value} {cs : List Value} {z0 : Zc} (hk : look k s.L = some (.own (rowA e sz v n cs))) (hz : s.z = z0) (h : ∀ A c z', v = .slice A n c → n ≤ c → z0 ≤ z' → RdAt z' A 0 cs → vsI P ic K ⟨s.t, del k s.L, z', s.n⟩) : vsI P ic K s := by subst hz; exact VS.frzR k hk h
end
theorem joinV.id {r : IReg} {s : St} {V : (St → Prop) → Prop} {K : St → Prop} (h : V K) : joinV r s V K := ⟨K, h, fun _ h => h⟩
attribute [go_sem] Option.isSome_some Option.isSome_none true_imp_iff false_imp_iff ptrF loopK_normal loopK_exit loopK_ret updL vcI_skip vcI_reg vcI_join vcI_seq vcI_block vcI_loop vcI_exit
attribute [go_sem] vcI_ret seqK_normal seqK_exit seqK_ret blockK_normal blockK_exit blockK_ret condS_b condI_t condI_f postK_normal postK_ret vcR_done vcR_op0 vcR_opg vcR_alt
attribute [go_sem] kR_app putK_app guardS_b guardS_u guardR_tt guardR_ff guardR_tf guardR_ft pickB_t pickB_f pickS_b vcp_pickS vcl_S ldS_p ldS_f ldE_a
attribute [go_sem] ldE_c ldO_some vcO_p vcO_l vcO_m vcO_t vcm_ld vcm_alc vcm_box boxS_some vcm_bsl vcm_sto stoS_p stoS2_some stoS3_some vcM_call
attribute [go_sem] vcM_app vcM_oth vcT_call vcT_app vcT_oth vcM_sto vcT_sto stoM_p stoT_p stoT_f vcm_mv vcm_pick vcm_ext vcm_fld vcm_nil vcm_fad
attribute [go_sem] vcm_iad vcm_slc vcm_sl3 vcm_bin vcm_eqb vcm_isn vcm_not vcm_cvi vcm_bld vcm_len vcm_mn vcm_mx vcM_mv vcT_mv vcM_pick vcT_pick
attribute [go_sem] vcM_ext vcT_ext vcM_fld vcT_fld vcM_nil vcT_nil vcM_fad vcT_fad vcM_iad vcT_iad vcM_slc vcT_slc vcM_sl3 vcT_sl3 vcM_bin vcT_bin
attribute [go_sem] vcM_eqb vcT_eqb vcM_isn vcT_isn vcM_not vcT_not vcM_cvi vcT_cvi vcM_bld vcT_bld vcM_len vcT_len vcM_mn vcT_mn vcM_mx vcT_mx
attribute [go_sem] vcM_ld vcT_ld vcM_alc vcT_alc vcM_box vcT_box vcM_bsl vcT_bsl vcp_e_mv vcp_e_ext vcp_e_fld vcp_e_nil vcp_e_fad vcp_e_iad vcp_e_slc vcp_e_sl3
attribute [go_sem] vcp_e_bin vcp_e_eqb vcp_e_isn vcp_e_not vcp_e_cvi vcp_e_bld vcp_e_len vcp_e_mn vcp_e_mx binK ev gt st stO unS ofV
attribute [go_sem] ofTE xnm fillS fillB putAt repl cellsOf SC.one look del remX optI cutA_zero Value.oneCell' List.map_cons List.map_nil
attribute [go_sem] List.replicate List.cons_append List.nil_append List.length_cons List.length_nil List.take_succ_cons List.take_zero List.drop_succ_cons List.drop_zero List.drop_nil List.take_nil List.getElem?_cons_zero List.getElem?_cons_succ List.getElem?_nil List.all_cons List.all_nil
attribute [go_sem] Bool.and_true Bool.and_self Nat.add_zero Nat.zero_add Int.toNat_natCast Nat.sub_zero ne_eq not_false_eq_true true_and and_true List.mem_cons List.not_mem_nil or_false or_true true_or eq_self
attribute [go_sem] eq_self_iff_true if_true if_false ite_true ite_false Nat.succ_ne_self List.contains_nil List.contains_cons Bool.or_false Bool.false_or Bool.or_true Bool.true_or Bool.false_eq_true forall_const Bool.not_true Bool.not_false
attribute [go_sem] IntKind.bits beq_iff_eq decide_true decide_false
/-! Short names, and packs with their own proofs. -/
theorem vJ {P : Program} {b : IC} {s : St} {K : Exit → St → Prop} (h : vcI P b s K) : vsI P b K s := vsI.id h
theorem vK {P : Program} {c : Operand} {a b : IC} {s : St} {K : Exit → St → Prop} (h : condS P a b K s (ev s.t c)) : vcI P (.cond c a b) s K := vcI_cond h
theorem FinV.pk {fr : List FR} {s : St} {R : Value → Zc → Asrt → Prop} (k0 : Nat) (ks : List Nat) {L' : Ents} {As : List Asrt} (hf : FinV fr ⟨s.t, (k0, .own (starL As)) :: L', s.z, s.n⟩ R) (h : popL ks s.L = some (As, L') := by simp only [popL, look, del, Nat.reduceEqDiff, reduceCtorEq, if_true, if_false, reduceIte, Nat.succ_ne_self]; exact rfl) (h0 : look k0 L' = none := by simp only [look, Nat.reduceEqDiff, reduceCtorEq, if_true, if_false, reduceIte]) : FinV fr s R := FinV.tf (Tf.pack k0 ks h h0) hf
theorem callM.pk {P : Program} {f : FuncId} {args : List Operand} {d : Option Nat} {s : St} {K : St → Prop} (k0 : Nat) (ks : List Nat) {L' : Ents} {As : List Asrt} (hf : callM P f args d ⟨s.t, (k0, .own (starL As)) :: L', s.z, s.n⟩ K) (h : popL ks s.L = some (As, L') := by simp only [popL, look, del, Nat.reduceEqDiff, reduceCtorEq, if_true, if_false, reduceIte, Nat.succ_ne_self]; exact rfl) (h0 : look k0 L' = none := by simp only [look, Nat.reduceEqDiff, reduceCtorEq, if_true, if_false, reduceIte]) : callM P f args d s K := callM.tf (Tf.pack k0 ks h h0) hf
theorem zq1 {α : Type _} {β : Type _} {f : α → β} {a : α} {l : List α} : List.map f (a :: l) = f a :: List.map f l := rfl
theorem zq2 {α : Type _} {β : Type _} {f : α → β} : List.map f [] = [] := rfl
theorem zq3 {α : Type _} {a : α} {l : List α} : (a :: l).length = l.length + 1 := rfl
theorem zq4 {α : Type _} : ([] : List α).length = 0 := rfl
theorem zq5 {α : Type _} {a : α} {l : List α} : (a :: l)[0]? = some a := rfl
theorem zq7 (n : Nat) : 0 + n = n := Nat.zero_add n
theorem zq8 (n : Nat) : n + 0 = n := rfl
def xt (a : IOp) (d : Nat) (k : IReg) : IReg := .op .t a (some d) none k
def xp (a : IOp) (d : Nat) (k : IReg) : IReg := .op .p a (some d) none k
def xl (a : IOp) (d : Nat) (k : IReg) : IReg := .op .l a (some d) none k
def xm (a : IOp) (d : Nat) (k : IReg) : IReg := .op .m a (some d) none k
def xr (n : Nat) : Operand := .tmp n
attribute [go_sem] xt xp xl xm xr
/-! Steps that end where they end. -/
theorem gO {A B : Prop} (h : B) (f : B → A := by intro h; ((try simp only [seval, go_sem]);repeat((with_reducible first|refine vJ ?_|refine vK ?_);try simp only [seval, go_sem])); exact h) : A := f h
theorem fN {A B : Prop} (h : B) (f : B → A := by intro h; ((try simp only [seval, go_sem]);repeat((with_reducible first|refine vJ ?_|refine vK ?_);try simp only [seval, go_sem])); with_reducible refine FinV.of ?_; simp only [finE, finS, gt, look, SV.toV, SC.toV, allV, tupV, zq1, zq2, zq3, zq4, Nat.reduceAdd, Nat.reduceEqDiff, reduceCtorEq, if_true, if_false, reduceIte, Nat.succ_ne_self, true_and, zq5, zq7, zq8]; exact h) : A := f h
theorem fZ {A : Prop} (h : A := by ((try simp only [seval, go_sem]);repeat((with_reducible first|refine vJ ?_|refine vK ?_);try simp only [seval, go_sem])); with_reducible refine FinV.of ?_; simp only [finE, finS, gt, look, SV.toV, SC.toV, allV, tupV, zq1, zq2, zq3, zq4, Nat.reduceAdd, Nat.reduceEqDiff, reduceCtorEq, if_true, if_false, reduceIte, Nat.succ_ne_self, true_and, zq5, zq7, zq8]) : A := h
theorem fP {A B : Prop} (h : B) (f : B → A := by intro h; ((try simp only [seval, go_sem]);repeat((with_reducible first|refine vJ ?_|refine vK ?_);try simp only [seval, go_sem])); refine FinV.own 999 rfl ?_; simp only [finE, finS, gt, look, SV.toV, SC.toV, allV, tupV, zq1, zq2, zq3, zq4, Nat.reduceAdd, Nat.reduceEqDiff, reduceCtorEq, if_true, if_false, reduceIte, Nat.succ_ne_self, true_and, zq5, zq7, zq8]; exact h) : A := f h
theorem fQ {A B : Prop} (h : B) (f : B → A := by intro h; ((try simp only [seval, go_sem]);repeat((with_reducible first|refine vJ ?_|refine vK ?_);try simp only [seval, go_sem])); refine FinV.own 1000 rfl ?_; simp only [finE, finS, gt, look, SV.toV, SC.toV, allV, tupV, zq1, zq2, zq3, zq4, Nat.reduceAdd, Nat.reduceEqDiff, reduceCtorEq, if_true, if_false, reduceIte, Nat.succ_ne_self, true_and, zq5, zq7, zq8]; exact h) : A := f h
theorem lX {s s' : St} (h : Le s s' := by (refine Le.of ?_ ?_ rfl ?_ ⟨rfl, rfl⟩; rotate_left; (simp only [LeL, look, del, Nat.reduceEqDiff, reduceCtorEq, if_true, if_false, reduceIte, Nat.succ_ne_self, and_true, true_and, and_self]); (first | exact Nat.le_refl _ | decide | (dsimp only; omega)); (simp (disch := omega) only [LeT, updL, st, reduceCtorEq, true_or, or_true, false_or, and_true, true_and, SV.c.injEq, SC.v.injEq, Value.int.injEq, Value.slice.injEq, wrap_in, Int.natCast_add, Int.natCast_one, Int.natCast_zero, Int.cast_ofNat_Int]) <;> (try (repeat' constructor)) <;> (first | rfl | omega))) : Le s s' := h
theorem lE {s s' : St} (h : Le s s' := by (refine Le.of ?_ ?_ rfl ?_ ⟨rfl, rfl⟩; rotate_left; (repeat (first | exact trivial | refine ⟨rfl, ?_⟩)); (first | exact Nat.le_refl _ | decide | (dsimp only; omega)); (simp (disch := omega) only [LeT, updL, st, reduceCtorEq, true_or, or_true, false_or, and_true, true_and, SV.c.injEq, SC.v.injEq, Value.int.injEq, Value.slice.injEq, wrap_in, Int.natCast_add, Int.natCast_one, Int.natCast_zero, Int.cast_ofNat_Int]) <;> (try (repeat' constructor)) <;> (first | rfl | omega))) : Le s s' := h
theorem tT {A B : Prop} (h : B) (f : B → A := by intro h; (try with_reducible refine callM.toT ?_); exact h) : A := f h
theorem aT {A B : Prop} (h : B) (f : B → A := by intro h; (try with_reducible refine appM.toT ?_); exact h) : A := f h
def xpM (a d : Nat) (k : IReg) : IReg := .op .p (.mv (.tmp a)) (some d) none k
def xpN (a d : Nat) (k : IReg) : IReg := .op .p (.nil (.tmp a)) (some d) none k
def xpF (a o d : Nat) (k : IReg) : IReg := .op .p (.fad (.tmp a) o) (some d) none k
def xpI (a b s d : Nat) (k : IReg) : IReg := .op .p (.iad (.tmp a) (.tmp b) s) (some d) none k
def xpE (a o d : Nat) (k : IReg) : IReg := .op .p (.ext (.tmp a) o) (some d) none k
def xtM (a d : Nat) (k : IReg) : IReg := .op .t (.mv (.tmp a)) (some d) none k
def xtN (a d : Nat) (k : IReg) : IReg := .op .t (.nil (.tmp a)) (some d) none k
def xtF (a o d : Nat) (k : IReg) : IReg := .op .t (.fad (.tmp a) o) (some d) none k
def xtI (a b s d : Nat) (k : IReg) : IReg := .op .t (.iad (.tmp a) (.tmp b) s) (some d) none k
def xtE (a o d : Nat) (k : IReg) : IReg := .op .t (.ext (.tmp a) o) (some d) none k
def xtL (a d : Nat) (k : IReg) : IReg := .op .t (.len (.tmp a)) (some d) none k
def xtP (a b c d : Nat) (k : IReg) : IReg := .op .t (.pick (.tmp a) (.tmp b) (.tmp c)) (some d) none k
def xtT (a d : Nat) (k : IReg) : IReg := .op .t (.not (.tmp a)) (some d) none k
def xtO (a d : Nat) (k : IReg) : IReg := .op .t (.ld (.tmp a) 1 false) (some d) none k
def xtA (a n d : Nat) (k : IReg) : IReg := .op .t (.ld (.tmp a) n true) (some d) none k
def xlO (a d : Nat) (k : IReg) : IReg := .op .l (.ld (.tmp a) 1 false) (some d) none k
def xlA (a n d : Nat) (k : IReg) : IReg := .op .l (.ld (.tmp a) n true) (some d) none k
def xmO (a d : Nat) (k : IReg) : IReg := .op .m (.ld (.tmp a) 1 false) (some d) none k
def xmA (a n d : Nat) (k : IReg) : IReg := .op .m (.ld (.tmp a) n true) (some d) none k
def xG (a : IOp) (d g : Nat) (b : Bool) (k : IReg) : IReg := .op .t a (some d) (some (g, b)) k
def xS (a b n : Nat) (k : IReg) : IReg := .op .t (.sto (.tmp a) (.tmp b) n) none none k
def xR (r : IReg) (c : IC) : IC := .seq (.reg [] r) c
def xQ (r : IReg) : IC := .reg [] r
def xi (n : Int) : Operand := .const (.int .i64 n)
def xb (b : Bool) : Operand := .const (.bool b)
def zI : Value := .int .i64 0
def zB : Value := .bool false
def zS : Value := .slice none 0 0
attribute [go_sem] xpM xpN xpF xpI xpE xtM xtN xtF xtI xtE xtL xtP xtT xtO xtA xlO xlA xmO xmA xG xS xR xQ xi xb zI zB zS
theorem VS.le' {s s' : St} {G : St → Prop} (hl : Le s s') (h : VS s' G) : VS s G := fun C ρ a w hs => (hl C ρ a w hs).elim fun ρ' h' => h C ρ' a w h'
theorem joinV.le {P : Program} {ic : IC} {K : Exit → St → Prop} {r : IReg} {s : St} {V : (St → Prop) → Prop} {ι : Type} (I : ι → Prop) (ds : List Nat) (upd : ι → List (Nat × SV)) (L : ι → Ents) (z : ι → Zc) (n : Nat) {T : List SV} (hT : anyL ds s.t = T)
  (hv : V (fun s' => ∃ i, I i ∧ Le s' ⟨updL (upd i) T, L i, z i, n⟩)) (hk : ∀ i, I i → vsI P ic K ⟨updL (upd i) T, L i, z i, n⟩) : joinV r s V (vsI P ic K) :=
 ⟨_, hv, fun s' ⟨i, hi, hl⟩ => VS.le' hl (hk i hi)⟩
theorem vsI.pk {P : Program} {ic : IC} {K : Exit → St → Prop} {s : St} (k0 : Nat) (ks : List Nat) {L' : Ents} {As : List Asrt} (hf : vsI P ic K ⟨s.t, (k0, .own (starL As)) :: L', s.z, s.n⟩) (h : popL ks s.L = some (As, L') := by simp only [popL, look, del, Nat.reduceEqDiff, reduceCtorEq, if_true, if_false, reduceIte, Nat.succ_ne_self]; exact rfl) (h0 : look k0 L' = none := by simp only [look, Nat.reduceEqDiff, reduceCtorEq, if_true, if_false, reduceIte]) : vsI P ic K s := vsI.tf (Tf.pack k0 ks h h0) hf
section
variable {P : Program} {s : St} {K : St → Prop} {d : Option Nat}
theorem oth_makeSliceB (k : Nat) {t e sz n : Nat} {x y : Operand} {kx ky : IntKind} (ht : AppTy P t e sz) (hk : look k s.L = none) (hx : ev s.t x = .c (.v (.int kx n))) (hy : ev s.t y = .c (.v (.int ky n))) (hn : n ≤ 1000000) (hsz : n * sz ≤ 16000000)
  (hK : ∀ b z0, (∃ i, P.info? e = some i ∧ i.zero = some z0) → K ⟨stO s.t d (.c (.v (.slice (some ⟨b, 0, none⟩) n n))), (k, .own (rowA e sz (.slice (some ⟨b, 0, none⟩) n n) n (madeCells z0.cells (n * sz)).toList)) :: s.L, s.z, s.n⟩) : othM P (.makeSlice t x y) d s K := fun o ho hd C ρ a w Q h => by
 subst hd
 obtain ⟨i, z0, i1, i2, i3, i4, i5⟩ := ht.inf
 have hxv : a.eval x = .int kx n := by have := ev_den h.fr x; rw [hx] at this; exact this
 have hyv : a.eval y = .int ky n := by have := ev_den h.fr y; rw [hy] at this; exact this
 obtain ⟨w', h1, h2, h3⟩ := run_makeSlice_full (P := P) (w := w) w.heap.size t e i z0 sz ht.und i1 i2 i3 kx ky n (by omega) (by have := Nat.mul_le_mul i4 hn; omega) (by simp only [maxLen]; omega) (Nat.le_refl _)
 have hrun : (execOp a.eval o).run P w = .ok (.value (.slice (some ⟨w.heap.size, 0, none⟩) n n)) w' := by
  unfold execOp
  simp [ho, hxv, hyv, h1]
 obtain ⟨F, f1, f2⟩ := h.mem
 have hW : WOk ⟨w, fun _ => False, s.z⟩ s.z (fun b => (Value.slice (some ⟨w.heap.size, 0, none⟩) n n).ownBlock = some b) w' := by
  refine ⟨h3.os, h3.tape, h3.output, h3.size, Nat.le_trans f2.zsize h3.size, fun b hb => ?_, fun b hb hz => ?_, fun b hb hf => ?_, fun b hb => ?_, fun b hb => .inl hb, Zc.rfl' _⟩
  ·exact (h3.block b (Nat.lt_of_lt_of_le hb.2 f2.zsize) (fun e => by cases e)).trans (f2.frz b hb)
  ·simp [Value.ownBlock] at hb; have := Nat.lt_of_lt_of_le hz.2 f2.zsize; omega
  ·exact h3.block b hb (fun e => by cases e)
  ·simp [Value.ownBlock] at hb; exact .inr (by show w.heap.size ≤ b; omega)
 obtain ⟨hS, hP⟩ := own_after (d := o.dst) (k := k) (sv := .c (.v (.slice (some ⟨w.heap.size, 0, none⟩) n n))) (A := emp) (A' := rowA e sz (.slice (some ⟨w.heap.size, 0, none⟩) n n) n (madeCells z0.cells (n * sz)).toList) (L := s.L) (F1 := fun _ => False) (F2 := F) h f1 f2 (fun _ h => h) f1 (fun _ h => h.elim) (fun b => by simp)
  (fun _ _ _ h => h) (fun e cs => by rw [hk]; simp) ⟨Row.of_own h2, fun _ => Iff.rfl⟩ hW rfl
 exact wp_value hrun ⟨_, ρ, hK _ z0 ⟨i, i1, i2⟩, hS, hP⟩
end
end Go.Proofs.YtllafcmkppmdgaaGreat
