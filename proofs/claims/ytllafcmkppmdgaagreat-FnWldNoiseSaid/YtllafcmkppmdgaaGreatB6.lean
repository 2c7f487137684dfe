/- The engine, last part: append onto nothing, that gives a row of one's own. · The engine: what is behind a pointer that is handed in. · The engine: rows that grow, with their form. · The engine: a block is taken back, at some registers alone. · The engine: what ends a walk of two ends, in one step each, for merged texts. · The types of the program, as the codes want them. · The engine: codes, read out of the program by rewriting. · Codes of functions, group Base. · What the small functions do: clones, ranges, numbers, what is ok. · Codes of functions, group List. · What the functions that go through lists do. -/
import Derived.Test.YtllafcmkppmdgaaGreatB4
import Derived.Test.YtllafcmkppmdgaaGreatProg
import Derived.Test.YtllafcmkppmdgaaGreatB5
namespace Go.Proofs.YtllafcmkppmdgaaGreat
open Go.RowKit
set_option linter.unusedVariables false
set_option linter.unusedSimpArgs false
section
variable {P : Program} {s : St} {K : St → Prop}
theorem appM_emptyO (k : Nat) {t e sz : Nat} {x y : Operand} {d : Option Nat} (ht : AppTy P t e sz) (hk : look k s.L = none) (hx : (∃ A0, ev s.t x = .c (.v (.slice A0 0 0))) ∨ ∃ j o, ev s.t x = .c (.s j o 0 0))
  {A : Option Addr} {m c : Nat} {news : List Value} (hy : ev s.t y = .c (.v (.slice A m c))) (hr : RdAt s.z A 0 news) (hl : news.length = m * sz) (h1 : ∀ u ∈ news, u.oneCell' = true) (hb : m ≤ 1000000000) (hm : 0 < m)
  (hK : ∀ A c, m ≤ c → K ⟨stO s.t d (.c (.v (.slice A m c))), (k, .own (rowA e sz (.slice A m c) m news)) :: s.L, s.z, s.n⟩) : appM P t x y d s K := fun o ho hd C ρ a w Q h => by
 subst hd
 obtain ⟨A0, hxv⟩ : ∃ A0, a.eval x = .slice A0 0 0 := by
  have hxd := ev_den h.fr x
  rcases hx with ⟨A0, hx⟩ | ⟨j, o', hx⟩
  ·rw [hx] at hxd; exact ⟨A0, hxd⟩
  ·rw [hx] at hxd; obtain ⟨b, _, hb2⟩ := hxd; exact ⟨_, hb2⟩
 have hyv : a.eval y = .slice A m c := by have := ev_den h.fr y; rw [hy] at this; exact this
 have hr' := hr.rd h.mem
 obtain ⟨i, z0, i1, i2, i3, i4, i5⟩ := ht.inf
 have hne : news ≠ [] := by
  intro e'; subst e'; simp only [List.length_nil] at hl
  rcases Nat.mul_eq_zero.1 hl.symm with h' | h'
  ·omega
  ·have := ht.pos; omega
 obtain ⟨b, ob, rfl, hc⟩ := hr' hne
 obtain ⟨F, f1, f2⟩ := h.mem
 have hrun : ∃ v' w', (Builtin.append_ #[t, t] o.type #[a.eval x, a.eval y]).run P w = .ok v' w' ∧ Row w' e sz v' m news ∧ w.grownBy w' none ∧ ∀ g, v'.ownBlock = some g → w.heap.size ≤ g := by
  rw [hxv, hyv]
  cases A0 with
  | none =>
   obtain ⟨v', w', k1, k2, k3, _, k5⟩ := run_append_own_at (P := P) w w.heap.size t o.type e i z0 sz i.bytes ht.und i1 i2 i3 rfl i5 ht.pos (.slice none 0 0) 0 [] (World.ownsRow_nil w _ e sz) ⟨b, ob, none⟩ m c news hl (fun j u hu => by rw [add_at]; exact hc j u hu) h1 (by simp only [maxLen]; omega) (by have := Nat.mul_le_mul hb i4; rw [Nat.zero_add]; omega) (Nat.le_refl _)
   have k2' := Row.of_own k2
   rw [List.nil_append, Nat.zero_add] at k2'
   refine ⟨v', w', k1, k2', k3, fun g hg => ?_⟩
   rcases k5 with e' | e'
   ·rw [e'] at hg; cases hg
   ·rw [e'] at hg; injection hg with hg; omega
  | some a0 =>
   obtain ⟨v', w', k1, k2, k3⟩ := run_append_arg_grows (P := P) w t o.type e i z0 sz i.bytes ht.und i1 i2 i3 rfl i5 ht.pos a0 0 0 [] (by simp) (fun j u hu => by simp at hu) ⟨b, ob, none⟩ m c news hl (fun j u hu => by rw [add_at]; exact hc j u hu) (by omega) (by simp only [maxLen]; omega) (by have := Nat.mul_le_mul hb i4; rw [Nat.zero_add]; omega)
   have k2' := Row.of_own k2
   rw [List.nil_append, Nat.zero_add] at k2'
   refine ⟨v', w', k1, k2', k3, fun g hg => ?_⟩
   rcases k2.2 with ⟨e', _⟩ | ⟨g', cap, cur, e', hg', _⟩
   ·rw [e'] at hg; cases hg
   ·rw [e'] at hg; simp [Value.ownBlock] at hg; omega
 obtain ⟨v', w', hrun, r1, r2, r3⟩ := hrun
 have hW : WOk ⟨w, fun _ => False, s.z⟩ s.z (fun b => v'.ownBlock = some b) w' := by
  refine ⟨r2.os, r2.tape, r2.output, r2.size, Nat.le_trans f2.zsize r2.size, fun b hb => ?_, fun b hb hz => ?_, fun b hb hf => ?_, fun b hb => ?_, fun b hb => .inl hb, Zc.rfl' _⟩
  ·exact (r2.block b (Nat.lt_of_lt_of_le hb.2 f2.zsize) (fun e => by cases e)).trans (f2.frz b hb)
  ·have := r3 b hb; have := Nat.lt_of_lt_of_le hz.2 f2.zsize; omega
  ·exact r2.block b hb (fun e => by cases e)
  ·exact .inr (r3 b hb)
 obtain ⟨hS, hP⟩ := own_after (d := o.dst) (k := k) (sv := .c (.v v')) (v := v') (A := emp) (A' := rowA e sz v' m news) (L := s.L) (F1 := fun _ => False) (F2 := F) h f1 f2 (fun _ h => h) f1 (fun _ h => h.elim) (fun b => by simp)
  (fun _ _ _ h => h) (fun e cs => by rw [hk]; simp) ⟨r1, fun _ => Iff.rfl⟩ hW rfl
 obtain ⟨A', c', e1, e2, _⟩ := r1.rd
 subst e1
 exact wp_value (run_app ho hrun) ⟨_, ρ, hK A' c' e2, hS, hP⟩
theorem appM_zero {t e sz : Nat} {x y : Operand} {d : Option Nat} (ht : AppTy P t e sz) (hx : (∃ A0 n0 c0, n0 ≤ c0 ∧ ev s.t x = .c (.v (.slice A0 n0 c0))) ∨ ∃ j o, ev s.t x = .c (.s j o 0 0))
  {A : Option Addr} {c : Nat} (hy : ev s.t y = .c (.v (.slice A 0 c))) (hK : K ⟨stO s.t d (ev s.t x), s.L, s.z, s.n⟩) : appM P t x y d s K := fun o ho hd C ρ a w Q h => by
 subst hd
 obtain ⟨i, z0, i1, i2, i3, i4, i5⟩ := ht.inf
 have hyv : a.eval y = .slice A 0 c := by have := ev_den h.fr y; rw [hy] at this; exact this
 have hxd := ev_den h.fr x
 obtain ⟨A0, n0, c0, hn, hxv⟩ : ∃ A0 n0 c0, n0 ≤ c0 ∧ a.eval x = .slice A0 n0 c0 := by
  rcases hx with ⟨A0, n0, c0, hn, hx⟩ | ⟨j, o', hx⟩
  ·rw [hx] at hxd; exact ⟨A0, n0, c0, hn, hxd⟩
  ·rw [hx] at hxd; obtain ⟨b, _, hb2⟩ := hxd; exact ⟨_, _, _, Nat.le_refl _, hb2⟩
 refine wp_value (run_app ho (by rw [hxv, hyv]; exact run_append_zero t _ e i ht.und i1 w A0 A n0 c0 c hn)) ⟨_, ρ, hK, h.put o.dst ?_, Stp.same⟩
 rw [← hxv]
 exact hxd
end
/-! Functions that own, entered. -/
theorem spec_enter0 {P : Program} {f : FuncId} {ic : IC} {fr : List FR} {args : List Value} {m : Nat} {z : Zc} {R : Value → Zc → Asrt → Prop} (hk : FK P f ic fr m)
  (hv : vcI P ic ⟨args.map ofV ++ List.replicate (m - args.length) unS, [], z, 0⟩ (postK fr R)) : Spec P f args z emp R :=
 spec_enter hk fun C ρ a w hs => ⟨_, ρ, hv, hs.df, hs.fr, hs.nm, hs.mem.drop⟩
theorem spec_enter1 {P : Program} {f : FuncId} {ic : IC} {fr : List FR} {args : List Value} {m : Nat} {z : Zc} {A : Asrt} {R : Value → Zc → Asrt → Prop} (hk : FK P f ic fr m)
  (hv : vcI P ic ⟨args.map ofV ++ List.replicate (m - args.length) unS, [(1000, .own A)], z, 0⟩ (postK fr R)) : Spec P f args z A R :=
 spec_enter hk fun C ρ a w hs => ⟨_, ρ, hv, hs⟩
theorem spec_enterL {P : Program} {f : FuncId} {ic : IC} {fr : List FR} {args : List Value} {m : Nat} {z : Zc} {As : List Asrt} {R : Value → Zc → Asrt → Prop} (ks : List Nat) (hk : FK P f ic fr m) (hl : ks.length = As.length := by rfl)
  (hv : vcI P ic ⟨args.map ofV ++ List.replicate (m - args.length) unS, zipL ks As [], z, 0⟩ (postK fr R)) : Spec P f args z (starL As) R :=
 spec_enter hk fun C ρ a w hs => ⟨_, ρ, hv, (Tf.open' (s := ⟨args.map ofV ++ List.replicate (m - args.length) unS, [(1000, .own (starL As))], z, 0⟩) 1000 ks rfl hl (by simp [del, look])).sat hs⟩
theorem Spec.frz {P : Program} {f : FuncId} {args : List Value} {z : Zc} {e sz : Nat} {A0 : Asrt} {R : Value → Zc → Asrt → Prop} {R' : Value → Zc → Prop} (h : Spec P f args z A0 R)
  (hR : ∀ v z' A', z ≤ z' → R v z' A' → ∃ u n cs, A' = rowA e sz u n cs ∧ ∀ A c z'', u = .slice A n c → n ≤ c → z' ≤ z'' → RdAt z'' A 0 cs → R' v z'') : Spec P f args z A0 fun v z' A' => A' = emp ∧ R' v z' := fun w F hw hA => by
 refine (h w F hw hA).mono ?_
 rintro e' w' ⟨v, z', A', F', rfl, h2, h3, h4⟩
 obtain ⟨u, n, cs, rfl, hk⟩ := hR v z' A' h4.zle h2
 obtain ⟨A, c, z'', k1, k2, k3, k4, ⟨F'', k5, k6⟩⟩ := Mem.freezeRow (C := ⟨w, F, z⟩) (ρ := []) (z := z') (L := [(0, .own (rowA e sz u n cs))]) (w := w') (k := 0) ⟨F', ⟨F', fun _ => False, h3, fun _ h => h, fun _ _ h => h, fun b => by simp⟩, h4⟩ rfl
 exact ⟨v, z'', emp, fun _ => False, rfl, ⟨rfl, hk A c z'' k1 k2 k3 k4⟩, fun _ h => h, k6.less fun _ h => h.elim⟩
def ptrA (e b : Nat) (vs : List Value) : Asrt where
 holds w F := w.heap[b]? = some (.cells vs.toArray e (0, 0)) ∧ ∀ x, F x ↔ x = b
 loc := fun h k => ⟨(k b ((h.2 b).2 rfl)).trans h.1, h.2⟩
 dom := fun h hb => by rw [(h.2 _).1 hb]; exact lt_of_heap h.1
def unV (j b : Nat) : SV → SV
 | .c (.f (some ⟨b', 0, none⟩) o) => if b' = b then .c (.p j o) else .c (.f (some ⟨b', 0, none⟩) o)
 | x => x
theorem unV_den {ρ : Nm} {j b : Nat} (hb : ρ[j]? = some b) (x : SV) (u : Value) (h : x.den ρ u) : (unV j b x).den ρ u := by
 unfold unV
 split
 ·rename_i b' o
  split
  ·rename_i e
   subst e
   obtain ⟨b0, o', e1, rfl⟩ := h
   injection e1 with e1
   injection e1 with e1 e2
   subst e1
   subst e2
   exact ⟨_, hb, by rw [Nat.zero_add]⟩
  ·exact h
 ·exact h
def vals (vs : List Value) : List SC := vs.map .v
theorem vals_den {ρ : Nm} : ∀ (vs : List Value), DL (SC.den ρ) (vals vs) vs
 | [] => trivial
 | v :: vs => ⟨rfl, vals_den vs⟩
section
variable {P : Program} {s : St} {K : St → Prop} {d : Option Nat}
def giveSt (s : St) (k j m b e : Nat) (vs : List Value) : St := ⟨s.t.map (subV j b), (k, .own (ptrA e b vs)) :: (m, .link j b) :: subL j b (del j s.L), s.z, s.n⟩
theorem Sat.give {C : Ctx} {ρ : Nm} {a : Act} {w : World} (k j m : Nat) {e : Nat} {cs : List SC} {vs : List Value} (hk : look j s.L = some (.cells e cs)) (hv : allV cs = some vs) (hs : Sat C ρ s a w) :
  ∃ b, ρ[j]? = some b ∧ Sat C ρ (giveSt s k j m b e vs) a w := by
 obtain ⟨F, hh, hw⟩ := hs.mem
 obtain ⟨F1, F2, ⟨b, us, a1, a2, a3, a4⟩, k2, kd, kF⟩ := hh.pick hk
 have hus := allV_den hv a2
 subst hus
 exact ⟨b, a1, hs.df, hs.fr.map_left (subV_den a1), hs.nm, F, ⟨F1, F2, ⟨a3, a4⟩, ⟨fun _ => False, F2, ⟨a1, fun _ h => h⟩, subL_holds a1 k2, fun _ h => h.elim, fun x => by simp⟩, kd, kF⟩, hw⟩
theorem opT.give {o : Oper} (k j m : Nat) {e : Nat} {cs : List SC} {vs : List Value} (hk : look j s.L = some (.cells e cs)) (hv : allV cs = some vs) (h : ∀ b, opT P o (giveSt s k j m b e vs) K) : opT P o s K := fun C ρ a w Q hs => by
 obtain ⟨b, _, hs'⟩ := hs.give k j m hk hv
 exact h b C ρ a w Q hs'
theorem callT.give {f : FuncId} {args : List Operand} (k j m : Nat) {e : Nat} {cs : List SC} {vs : List Value} (hk : look j s.L = some (.cells e cs)) (hv : allV cs = some vs) (h : ∀ b, callT P f args d (giveSt s k j m b e vs) K) : callT P f args d s K := fun o h1 h2 => opT.give k j m hk hv fun b => h b o h1 h2
theorem FinV.give {fr : List FR} {R : Value → Zc → Asrt → Prop} (k j m l : Nat) {e b : Nat} {cs : List SC} {vs : List Value} (hk : look j s.L = some (.cells e cs)) (hv : allV cs = some vs) (hl : look l s.L = some (.link j b)) (h : FinV fr (giveSt s k j m b e vs) R) : FinV fr s R := fun C ρ a w hs => by
 obtain ⟨b', h1, hs'⟩ := hs.give k j m hk hv
 obtain ⟨F, hh, hw⟩ := hs.mem
 obtain ⟨F1, F2, ⟨h2, _⟩, _⟩ := hh.pick hl
 rw [h1] at h2
 injection h2 with h2
 subst h2
 exact h C ρ a w hs'
def takeSt (s : St) (k j b e : Nat) (vs : List Value) : St := ⟨s.t.map (unV j b), (j, .cells e (vals vs)) :: del k s.L, s.z, s.n⟩
theorem Tf.take (k j m : Nat) {e b : Nat} {vs : List Value} (hk : look k s.L = some (.own (ptrA e b vs))) (hm : look m s.L = some (.link j b)) (hj : look j (del k s.L) = none) {C : Ctx} {ρ : Nm} {a : Act} {w : World} (hs : Sat C ρ s a w) : Sat C ρ (takeSt s k j b e vs) a w := by
 obtain ⟨F, hh, hw⟩ := hs.mem
 obtain ⟨G1, G2, ⟨h2, _⟩, _⟩ := hh.pick hm
 obtain ⟨F1, F2, ⟨a3, a4⟩, k2, kd, kF⟩ := hh.pick hk
 exact ⟨hs.df, hs.fr.map_left (unV_den h2), hs.nm, F, ⟨F1, F2, ⟨b, vs, h2, vals_den vs, a3, a4⟩, k2, kd, kF⟩, hw⟩
theorem vsI.take {ic : IC} {K : Exit → St → Prop} (k j m : Nat) {e b : Nat} {vs : List Value} (hk : look k s.L = some (.own (ptrA e b vs))) (hm : look m s.L = some (.link j b)) (hj : look j (del k s.L) = none) (h : vsI P ic K (takeSt s k j b e vs)) : vsI P ic K s := fun C ρ a w hs => h C ρ a w (Tf.take k j m hk hm hj hs)
theorem FinV.take {fr : List FR} {R : Value → Zc → Asrt → Prop} (k j m : Nat) {e b : Nat} {vs : List Value} (hk : look k s.L = some (.own (ptrA e b vs))) (hm : look m s.L = some (.link j b)) (hj : look j (del k s.L) = none) (h : FinV fr (takeSt s k j b e vs) R) : FinV fr s R := fun C ρ a w hs => h C ρ a w (Tf.take k j m hk hm hj hs)
end
theorem spec_enterP {P : Program} {f : FuncId} {ic : IC} {fr : List FR} {b e : Nat} {vs : List Value} {args : List Value} {m : Nat} {z : Zc} {As : List Asrt} {R : Value → Zc → Asrt → Prop} (ks : List Nat) (hk : FK P f ic fr m) (hl : ks.length = As.length := by rfl)
  (hv : vcI P ic ⟨.c (.p 0 0) :: (args.map ofV ++ List.replicate (m - (args.length + 1)) unS), (0, .cells e (vals vs)) :: (2000, .link 0 b) :: zipL ks As [], z, 1⟩ (postK fr R)) : Spec P f (.pointer (some ⟨b, 0, none⟩) :: args) z (starL (ptrA e b vs :: As)) R :=
 spec_enter hk fun C ρ a w hs => by
  have hρ : ρ = [] := List.eq_nil_of_length_eq_zero hs.nm
  subst hρ
  refine ⟨_, [b], hv, hs.df, ?_, rfl, ?_⟩
  ·have hfr := hs.fr
   generalize a.tmps.toList = ts at hfr
   cases ts with
   | nil => exact hfr.elim
   | cons t ts =>
    obtain ⟨h1, h2⟩ := hfr
    refine ⟨⟨b, rfl, h1⟩, ?_⟩
    exact DL.mono (fun _ _ => SV.den.ext (List.nil_prefix)) h2
  ·obtain ⟨F, ⟨F1, F2, ⟨G1, G2, ⟨g1, g2⟩, g3, gd, gF⟩, hE, kd, kF⟩, hw⟩ := hs.mem
   have hop : Holds [] w (zipL ks As []) G2 := by
    have := Holds.open' (ρ := []) (w := w) (k := 1000) (ks := ks) (L := []) (As := As) (F := G2) hl ⟨G2, fun _ => False, g3, fun _ h => h, fun _ _ h => h, fun b => by simp⟩
    exact this
   refine ⟨F, ⟨G1, G2, ⟨b, vs, rfl, vals_den vs, g1, g2⟩, ⟨fun _ => False, G2, ⟨rfl, fun _ h => h⟩, hop.ext List.nil_prefix, fun _ h => h.elim, fun x => by simp⟩, gd, fun x => ?_⟩, hw⟩
   rw [kF x, gF x]
   have := hE x
   simp [this]
section
variable {P : Program} {s : St} {K : St → Prop}
theorem opM.sat {o : Oper} {K' : St → Prop} (h : opM P o s K') (hk : ∀ s', K' s' → ∀ C ρ a w, Sat C ρ s' a w → K s') : opM P o s K := fun C ρ a w Q hs =>
 Oper.wp_mono (fun a' w' ⟨s', ρ', h1, h2, h3⟩ => ⟨s', ρ', hk s' h1 _ _ _ _ h2, h2, h3⟩) (h C ρ a w Q hs)
theorem Sat.formR {C : Ctx} {ρ : Nm} {a : Act} {w : World} (k : Nat) {e sz n : Nat} {v : Value} {cs : List Value} (hk : look k s.L = some (.own (rowA e sz v n cs))) (hs : Sat C ρ s a w) : ∃ A c, v = .slice A n c ∧ n ≤ c ∧ (0 < n → IsAt A) := by
 obtain ⟨F, hh, hw⟩ := hs.mem
 obtain ⟨F1, F2, ⟨hrow, _⟩, _⟩ := hh.pick hk
 rcases hrow.2 with ⟨e1, e0⟩ | ⟨g, o, cap, cur, e1, _, e2, _⟩
 ·subst e0; exact ⟨none, 0, e1, Nat.le_refl _, fun h => absurd h (Nat.lt_irrefl _)⟩
 ·exact ⟨_, _, e1, e2, fun _ => ⟨g, o, rfl⟩⟩
theorem appM_rowF (k : Nat) {t e sz : Nat} {x y : Operand} {d : Option Nat} (ht : AppTy P t e sz) {v : Value} {n : Nat} {cs : List Value} (hk : look k s.L = some (.own (rowA e sz v n cs))) (hk' : look k (del k s.L) = none) (hx : ev s.t x = .c (.v v))
  {A : Option Addr} {m c : Nat} {news : List Value} (hy : ev s.t y = .c (.v (.slice A m c))) (hr : RdAt s.z A 0 news) (hl : news.length = m * sz) (h1 : ∀ u ∈ news, u.oneCell' = true) (hb : n + m ≤ 1000000000)
  (hK : ∀ A' c', n + m ≤ c' → K ⟨stO s.t d (.c (.v (.slice A' (n + m) c'))), (k, .own (rowA e sz (.slice A' (n + m) c') (n + m) (cs ++ news))) :: del k s.L, s.z, s.n⟩) : appM P t x y d s K := fun o ho hd =>
 opM.sat (appM_row (K := fun s' => ∃ v', s' = ⟨stO s.t d (.c (.v v')), (k, .own (rowA e sz v' (n + m) (cs ++ news))) :: del k s.L, s.z, s.n⟩) k ht hk hk' hx hy hr hl h1 hb (fun v' => ⟨v', rfl⟩) o ho hd) fun s' ⟨v', e'⟩ C ρ a w hs => by
  subst e'
  obtain ⟨A', c', e1, e2, _⟩ := hs.formR k (by show (if k = k then _ else _) = _; rw [if_pos rfl])
  subst e1
  exact hK A' c' e2
theorem appM_newF (k : Nat) {t e sz : Nat} {x y : Operand} {d : Option Nat} (ht : AppTy P t e sz) {v : Value} {n : Nat} {cs : List Value} (hk : look k s.L = some (.own (rowA e sz v n cs))) (hk' : look k (del k s.L) = none) (hx : ev s.t x = .c (.v v))
  {j m c e' : Nat} {cj : List SC} {news : List Value} (hy : ev s.t y = .c (.s j 0 m c)) (hj : look j s.L = some (.cells e' cj)) (hcj : allV cj = some news) (hl : news.length = m * sz) (h1 : ∀ u ∈ news, u.oneCell' = true) (hb : n + m ≤ 1000000000)
  (hK : ∀ A' c', n + m ≤ c' → IsAt A' ∨ m = 0 → K ⟨stO s.t d (.c (.v (.slice A' (n + m) c'))), (k, .own (rowA e sz (.slice A' (n + m) c') (n + m) (cs ++ news))) :: del k s.L, s.z, s.n⟩) : appM P t x y d s K := fun o ho hd =>
 opM.sat (appM_new (K := fun s' => ∃ v', s' = ⟨stO s.t d (.c (.v v')), (k, .own (rowA e sz v' (n + m) (cs ++ news))) :: del k s.L, s.z, s.n⟩) k ht hk hk' hx hy hj hcj hl h1 hb (fun v' => ⟨v', rfl⟩) o ho hd) fun s' ⟨v', e'⟩ C ρ a w hs => by
  subst e'
  obtain ⟨A', c', e1, e2, e3⟩ := hs.formR k (by show (if k = k then _ else _) = _; rw [if_pos rfl])
  subst e1
  refine hK A' c' e2 ?_
  rcases Nat.eq_zero_or_pos m with h0 | h0
  ·exact .inr h0
  ·exact .inl (e3 (by omega))
end
theorem unst_den {ρ : Nm} {j b : Nat} (hb : ρ[j]? = some b) : ∀ {t : List SV} {us : List Value} (d : Nat), DL (SV.den ρ) t us → DL (SV.den ρ) (st t d (unV j b (gt t d))) us
 | [], [], d, h => by cases d <;> exact h
 | x :: t, u :: us, 0, h => ⟨unV_den hb x u h.1, h.2⟩
 | x :: t, u :: us, d + 1, h => ⟨h.1, unst_den hb d h.2⟩
 | [], _ :: _, _, h => h.elim
 | _ :: _, [], _, h => h.elim
def unAt (j b : Nat) : List Nat → List SV → List SV
 | [], t => t
 | d :: ds, t => unAt j b ds (st t d (unV j b (gt t d)))
theorem unAt_den {ρ : Nm} {j b : Nat} (hb : ρ[j]? = some b) : ∀ (ds : List Nat) {t : List SV} {us : List Value}, DL (SV.den ρ) t us → DL (SV.den ρ) (unAt j b ds t) us
 | [], _, _, h => h
 | d :: ds, _, _, h => unAt_den hb ds (unst_den hb d h)
section
variable {P : Program} {s : St}
def takeSt' (s : St) (ds : List Nat) (k j b e : Nat) (vs : List Value) : St := ⟨unAt j b ds s.t, (j, .cells e (vals vs)) :: del k s.L, s.z, s.n⟩
theorem Tf.take' (ds : List Nat) (k j m : Nat) {e b : Nat} {vs : List Value} (hk : look k s.L = some (.own (ptrA e b vs))) (hm : look m s.L = some (.link j b)) (hj : look j (del k s.L) = none) {C : Ctx} {ρ : Nm} {a : Act} {w : World} (hs : Sat C ρ s a w) : Sat C ρ (takeSt' s ds k j b e vs) a w := by
 obtain ⟨F, hh, hw⟩ := hs.mem
 obtain ⟨G1, G2, ⟨h2, _⟩, _⟩ := hh.pick hm
 obtain ⟨F1, F2, ⟨a3, a4⟩, k2, kd, kF⟩ := hh.pick hk
 exact ⟨hs.df, unAt_den h2 ds hs.fr, hs.nm, F, ⟨F1, F2, ⟨b, vs, h2, vals_den vs, a3, a4⟩, k2, kd, kF⟩, hw⟩
theorem vsI.take' {ic : IC} {K : Exit → St → Prop} (ds : List Nat) (k j m : Nat) {e b : Nat} {vs : List Value} (hk : look k s.L = some (.own (ptrA e b vs))) (hm : look m s.L = some (.link j b)) (hj : look j (del k s.L) = none) (h : vsI P ic K (takeSt' s ds k j b e vs)) : vsI P ic K s := fun C ρ a w hs => h C ρ a w (Tf.take' ds k j m hk hm hj hs)
theorem FinV.take' {fr : List FR} {R : Value → Zc → Asrt → Prop} (ds : List Nat) (k j m : Nat) {e b : Nat} {vs : List Value} (hk : look k s.L = some (.own (ptrA e b vs))) (hm : look m s.L = some (.link j b)) (hj : look j (del k s.L) = none) (h : FinV fr (takeSt' s ds k j b e vs) R) : FinV fr s R := fun C ρ a w hs => h C ρ a w (Tf.take' ds k j m hk hm hj hs)
end
theorem wF1 {A B : Prop} (h : B) (f : B → A := by intro h; refine FinV.give 1000 0 2001 2000 rfl rfl rfl ?_; simp only [seval, go_sem, giveSt, subV, subC, subE, subL]; refine FinV.pk 999 [1000, 10, 11, 22, 23, 32, 33, 40, 41, 50, 51] ?_; dsimp only; refine fP ?_; exact h) : A := f h
theorem wF3 {A B : Prop} (h : B) (f : B → A := by intro h; refine FinV.give 1000 0 2003 2000 rfl rfl rfl ?_; simp only [seval, go_sem, giveSt, subV, subC, subE, subL]; refine FinV.pk 999 [1000, 10, 11, 22, 23, 32, 33, 40, 41, 50, 51] ?_; dsimp only; refine fP ?_; exact h) : A := f h
theorem wF5 {A B : Prop} (h : B) (f : B → A := by intro h; refine FinV.give 1000 0 2005 2000 rfl rfl rfl ?_; simp only [seval, go_sem, giveSt, subV, subC, subE, subL]; refine FinV.pk 999 [1000, 10, 11, 22, 23, 32, 33, 40, 41, 50, 51] ?_; dsimp only; refine fP ?_; exact h) : A := f h
theorem wC {A B : Prop} (h : B) (f : B → A := by intro h; refine tT ?_; refine callM.pk 94 [93, 10, 11, 22, 23, 32, 33, 40, 41, 50, 51] ?_; dsimp only; exact h) : A := f h
theorem wD {A B : Prop} (h : B) (f : B → A := by intro h; refine tT ?_; refine callM.pk 91 [90, 10, 11, 22, 23, 32, 33, 40, 41, 50, 51] ?_; dsimp only; exact h) : A := f h
theorem wO {A B : Prop} (h : B) (f : B → A := by intro h; refine FinV.tf (Tf.open' 94 [95, 10, 11, 22, 23, 32, 33, 40, 41, 50, 51] rfl rfl rfl) ?_; simp only [seval, go_sem, zipL]; refine FinV.take' [0] 95 0 2003 rfl rfl rfl ?_; simp only [seval, go_sem, takeSt', unAt, unV, vals]; exact h) : A := f h
theorem wS {A B : Prop} (h : B) (f : B → A := by intro h; refine FinV.pk 999 [10, 11, 20, 21, 22, 23, 30, 31, 32, 33, 40, 41, 50, 51] ?_; dsimp only; refine fP ?_; exact h) : A := f h
theorem wT {A B : Prop} (h : B) (f : B → A := by intro h; refine tT ?_; refine callM.pk 999 [10, 11, 20, 21, 22, 23, 30, 31, 32, 33, 40, 41, 50, 51] ?_; dsimp only; exact h) : A := f h
inductive TyI where
 | o (v : List Value)
 | n (k : IntKind)
 | b
 | s (e : Nat)
 | r (z : Nat) (fs : List (Nat × Nat)) (v : List Value)
def ty : Nat → TyI
 | 2 | 3 => .n .i64
 | 4 => .b
 | 5 | 6 => .n .u8
 | 7 | 8 => .r 4 [(0,2),(1,3),(2,4),(3,6)] [zI,zI,zB,(.int .u8 0)]
 | 9 | 10 | 11 => .o [(.string ⟨#[]⟩)]
 | 12 | 135 => .n .u64
 | 13 | 14 => .r 2 [(0,9),(1,12)] [(.string ⟨#[]⟩),(.int .u64 0)]
 | 15 | 16 | 17 | 71 | 127 | 128 | 130 | 157 | 180 | 182 | 183 => .o [(.pointer none)]
 | 18 | 19 => .r 1 [(0,17)] [(.pointer none)]
 | 20 => .o [.nilIface]
 | 21 => .n .i32
 | 22 => .s 5
 | 23 | 24 => .r 5 [(0,3),(1,3),(2,3),(3,3),(4,3)] [zI,zI,zI,zI,zI]
 | 25 => .s 35
 | 28 => .s 50
 | 29 => .s 53
 | 30 | 31 => .r 8 [(0,24),(5,28),(6,29),(7,3)] [zI,zI,zI,zI,zI,zS,zS,zI]
 | 34 | 35 => .r 5 [(0,3),(1,3),(2,3),(3,3),(4,22)] [zI,zI,zI,zI,zS]
 | 37 => .s 109
 | 38 | 39 => .r 10 [(0,3),(1,3),(2,37),(3,3),(4,37),(5,4),(6,3),(7,4),(8,3),(9,4)] [zI,zI,zS,zI,zS,zB,zI,zB,zI,zB]
 | 40 | 41 => .r 2 [(0,3),(1,22)] [zI,zS]
 | 42 | 43 => .r 7 [(0,3),(1,3),(2,41),(4,4),(5,4),(6,4)] [zI,zI,zI,zS,zB,zB,zB]
 | 44 | 45 => .r 5 [(0,3),(1,37),(2,3),(3,3),(4,4)] [zI,zS,zI,zI,zB]
 | 46 | 47 => .r 4 [(0,3),(1,41),(3,4)] [zI,zI,zS,zB]
 | 48 => .s 22
 | 49 | 50 => .r 28 [(0,39),(10,43),(17,45),(22,47),(26,48),(27,48)] [zI,zI,zS,zI,zS,zB,zI,zB,zI,zB,zI,zI,zI,zS,zB,zB,zB,zI,zS,zI,zI,zB,zI,zI,zS,zB,zS,zS]
 | 53 => .s 70
 | 64 | 65 => .r 9 [(0,3),(1,3),(2,3),(3,4),(4,4),(5,3),(6,3),(7,3),(8,22)] [zI,zI,zI,zB,zB,zI,zI,zI,zS]
 | 69 | 70 => .r 2 [(0,4),(1,22)] [zB,zS]
 | 94 | 95 => .r 2 [(0,22),(1,3)] [zS,zI]
 | 108 | 109 => .r 3 [(0,3),(1,3),(2,22)] [zI,zI,zS]
 | 112 => .s 3
 | 147 => .s 65
 | _ => .o [.nilFunc]
def tSz : TyI → Nat
 | .r z _ _ => z
 | .o _ => 1
 | .n _ => 1
 | .b => 1
 | .s _ => 1
def tAg : TyI → Bool
 | .r _ _ _ => true
 | .o _ => false
 | .n _ => false
 | .b => false
 | .s _ => false
def tEl : TyI → Nat
 | .s e => e
 | .o _ => 0
 | .n _ => 0
 | .b => 0
 | .r _ _ _ => 0
def tFs : TyI → List (Nat × Nat)
 | .r _ fs _ => fs
 | .o _ => []
 | .n _ => []
 | .b => []
 | .s _ => []
def tZr : TyI → List Value
 | .r _ _ v => v
 | .o v => v
 | .n k => [.int k 0]
 | .b => [.bool false]
 | .s _ => [.slice none 0 0]
def fAt : List (Nat × Nat) → Nat → Nat × Nat
 | [], _ => (0, 0)
 | x :: _, 0 => x
 | _ :: l, n + 1 => fAt l n
def pls (fs : List (Nat × Nat)) : List (Nat × Operand) → List (Nat × Nat × Operand)
 | [] => []
 | (i, x) :: r => ((fAt fs i).1, tSz (ty (fAt fs i).2), x) :: pls fs r
def trB (bop : BinOp) (x y : Operand) (o : Op) : TyI → IOp
 | .n _ => .bin bop x y
 | .b => match bop with | .eql => .eqb false x y | _ => .eqb true x y
 | .s _ => match bop with | .eql => .isn false x | _ => .isn true x
 | .o _ => .oth o
 | .r _ _ _ => .oth o
def lnO (c : Call) (x : Operand) : TyI → IOp
 | .s _ => .len x
 | .o _ => .oth (.call c)
 | .n _ => .oth (.call c)
 | .b => .oth (.call c)
 | .r _ _ _ => .oth (.call c)
def trL (a : Array Operand) (t : Array TypeId) : List Operand → List TypeId → Builtin → IOp
 | [x], [t'], .len => lnO ⟨.builtin .len, a, t⟩ x (ty t')
 | [x, y], _, .min => .mn x y
 | [x, y], _, .max => .mx x y
 | [x, y], [u, u'], .append => if u = u' then .app u x y else .oth (.call ⟨.builtin .append, a, t⟩)
 | _, _, b => .oth (.call ⟨.builtin b, a, t⟩)
def trK (a : Array Operand) (t : Array TypeId) : Callee → IOp
 | .builtin b => trL a t a.toList t.toList b
 | .value (.func f) => .call f a.toList
 | .value (.tmp n) => .oth (.call ⟨.value (.tmp n), a, t⟩)
 | .value (.const n) => .oth (.call ⟨.value (.const n), a, t⟩)
 | .value (.global n) => .oth (.call ⟨.value (.global n), a, t⟩)
 | .invoke r m => .oth (.call ⟨.invoke r m, a, t⟩)
def trO : Op → IOp
 | .move x => .mv x
 | .assign x => .mv x
 | .pick c a b => .pick c a b
 | .extract x i => .ext x i
 | .field t x i => .fld x (fAt (tFs (ty t)) i).1 (tSz (ty (fAt (tFs (ty t)) i).2)) (tAg (ty (fAt (tFs (ty t)) i).2))
 | .nilCheck x => .nil x
 | .fieldAddr t x i => .fad x (fAt (tFs (ty t)) i).1
 | .indexAddr t x i => .iad x i (tSz (ty (tEl (ty t))))
 | .slice t x lo hi none => .slc x lo hi (tSz (ty (tEl (ty t))))
 | .slice t x lo (some hi) (some mx) => .sl3 x lo hi mx (tSz (ty (tEl (ty t))))
 | .binOp bop t x y u => trB bop x y (.binOp bop t x y u) (ty t)
 | .unOp .not _ x => .not x
 | .convert s d x => match ty d with | .n k => .cvi k x | _ => .oth (.convert s d x)
 | .build t ps => .bld (tZr (ty t)) (pls (tFs (ty t)) ps.toList)
 | .load t x => .ld x (tSz (ty t)) (tAg (ty t))
 | .alloc t => .alc t (tZr (ty t))
 | .box t x => .box t x
 | .buildSlice t len ps => .bsl (tEl (ty t)) (tSz (ty (tEl (ty t)))) len (tZr (ty (tEl (ty t)))) ps.toList
 | .store t x y => .sto x y (tSz (ty t))
 | .call ⟨c, a, t⟩ => trK a t c
 | .makeFunc a b c => .oth (.makeFunc a b c)
 | .makeSlice t a b => .oth (.makeSlice t a b)
 | o => .oth o
def nO : List Oper → Nat → Oper
 | [], _ => default
 | x :: _, 0 => x
 | _ :: l, n + 1 => nO l n
def dO : Oper → Nat
 | ⟨some d, _, _, _, _, _⟩ => d
 | ⟨none, _, _, _, _, _⟩ => 0
def gG (L : List Oper) : Option (Nat × Bool) → Option (Nat × Bool)
 | none => none
 | some (j, b) => some (dO (nO L j), b)
def opD (L : List Oper) (k : Kd) : Oper → IReg → IReg
 | ⟨d, op, _, _, _, g⟩, r => .op k (trO op) d (gG L g) r
def seqD (L : List Oper) : List Oper → IReg
 | [] => .done
 | o :: l => opD L .t o (seqD L l)
inductive H where
 | l (a : List Nat)
 | f (a : List Nat) (x y : H)
def kdD : Nat → Kd
 | 0 => .p
 | 1 => .l
 | 2 => .m
 | _ => .t
def lin (L : List Oper) : List Nat → IReg → IReg
 | [], k => k
 | n :: l, k => opD L (kdD (n % 4)) (nO L (n / 4)) (lin L l k)
def regD (L : List Oper) : H → IReg
 | .l a => lin L a .done
 | .f a x y => lin L a (.alt (regD L x) (regD L y))
def hAt (id : Nat) : List (Nat × List Nat × H) → List Nat × H
 | [] => ([], .l [])
 | (j, p) :: l => if j = id then p else hAt id l
def drD (L : List Oper) : List Nat × H → IC
 | (xs, .l a) => .reg xs (regD L (.l a))
 | (xs, .f a x y) => .join xs (regD L (.f a x y))
def trD (h : List (Nat × List Nat × H)) : Code → IC
 | .skip => .skip
 | .region id ops false => .reg [] (seqD ops.toList ops.toList)
 | .region id ops true => drD ops.toList (hAt id h)
 | .seq a b => .seq (trD h a) (trD h b)
 | .cond c a b => .cond c (trD h a) (trD h b)
 | .block id b => .block id (trD h b)
 | .loop b => .loop (trD h b)
 | .exit id => .exit id
 | .ret => .ret
 | _ => .skip
theorem mkK {P : Program} {n : FuncId} {fn : Func} {b : Code} {ic : IC} {m : Nat} (fr : List FR) (pl : List FuncId) (hs : List (Nat × List Nat × H)) (h1 : P.funcs[n]? = some fn) (h4 : fn.ntmps = m) (h0 : fn.body = some b)
  (h : trD hs b = ic := by simp only [ty, tSz, tAg, tEl, tFs, tZr, fAt, pls, trB, lnO, trL, trK, trO, nO, dO, gG, opD, seqD, kdD, lin, regD, hAt, drD, trD, List.toList_toArray, List.append, if_true, if_false, reduceCtorEq, eq_self, reduceIte, Nat.reduceEqDiff, Nat.reduceMod, Nat.reduceDiv]; rfl)
  (h2 : fn.body.bind (trC P pl) = some ic := by kernel_rfl) (h3 : fres P fn.results.toList = some fr := by kernel_rfl) : FK P n ic fr m := ⟨fn, pl, h1, h2, h3, h4⟩
/-! Into a function. -/
def kyI : List Nat := [10, 11, 22, 23, 32, 33, 40, 41, 50, 51]
def kyR : List Nat := [10, 11, 20, 21, 22, 23, 30, 31, 32, 33, 40, 41, 50, 51]
attribute [go_sem] zipL vals kyI kyR
section
variable {P : Program} {f : FuncId} {ic : IC} {fr : List FR} {args : List Value} {m : Nat} {z : Zc} {B : Prop} {R : Value → Zc → Asrt → Prop}
theorem eP {R : Value → Zc → Prop} (hk : FK P f ic fr m) (h : B) (t : B → vcI P ic ⟨args.map ofV ++ List.replicate (m - args.length) unS, [], z, 0⟩ (postK fr fun v z' A' => A' = emp ∧ R v z') := by intro h; simp only [seval, go_sem]; exact h) : PSpec P f args z R := pspec_enter hk (t h)
theorem eA (hk : FK P f ic fr m) (h : B) (t : B → vcI P ic ⟨args.map ofV ++ List.replicate (m - args.length) unS, [], z, 0⟩ (postK fr R) := by intro h; simp only [seval, go_sem]; exact h) : Spec P f args z emp R := spec_enter0 hk (t h)
theorem eB {A : Asrt} (hk : FK P f ic fr m) (h : B) (t : B → vcI P ic ⟨args.map ofV ++ List.replicate (m - args.length) unS, [(1000, .own A)], z, 0⟩ (postK fr R) := by intro h; simp only [seval, go_sem]; exact h) : Spec P f args z A R := spec_enter1 hk (t h)
theorem eL {As : List Asrt} (ks : List Nat) (hk : FK P f ic fr m) (h : B) (t : B → vcI P ic ⟨args.map ofV ++ List.replicate (m - args.length) unS, zipL ks As [], z, 0⟩ (postK fr R) := by intro h; simp only [seval, go_sem]; exact h) (hl : ks.length = As.length := by rfl) : Spec P f args z (starL As) R := spec_enterL ks hk hl (t h)
theorem eQ {b e : Nat} {vs : List Value} {As : List Asrt} (ks : List Nat) (hk : FK P f ic fr m) (h : B) (t : B → vcI P ic ⟨.c (.p 0 0) :: (args.map ofV ++ List.replicate (m - (args.length + 1)) unS), (0, .cells e (vals vs)) :: (2000, .link 0 b) :: zipL ks As [], z, 1⟩ (postK fr R) := by intro h; simp only [seval, go_sem]; exact h) (hl : ks.length = As.length := by rfl) : Spec P f (.pointer (some ⟨b, 0, none⟩) :: args) z (starL (ptrA e b vs :: As)) R := spec_enterP ks hk hl (t h)
end
set_option maxRecDepth 100000
set_option maxHeartbeats 4000000
set_option linter.defProp false
def k56 := mkK [(.t 2)] [] [] Tryz.func56 Tryz.ntmps56 rfl
def k159 := mkK [(.t 2)] [] [] Tryz.func159 Tryz.ntmps159 rfl
def k104 := mkK [(.t 2)] [] [] Tryz.func104 Tryz.ntmps104 rfl
def k82 := mkK [(.t 2)] [] [] Tryz.func82 Tryz.ntmps82 rfl
def k81 := mkK [(.t 2)] [] [] Tryz.func81 Tryz.ntmps81 rfl
def k173 := mkK [(.t 2)] [] [] Tryz.func173 Tryz.ntmps173 rfl
def k172 := mkK [(.t 2)] [] [] Tryz.func172 Tryz.ntmps172 rfl
def k132 := mkK [(.t 2)] [] [] Tryz.func132 Tryz.ntmps132 rfl
def k131 := mkK [(.t 2)] [] [] Tryz.func131 Tryz.ntmps131 rfl
def k38 := mkK [(.t 6)] [] [] Tryz.func38 Tryz.ntmps38 rfl
def k85 := mkK [(.t 6)] [] [] Tryz.func85 Tryz.ntmps85 rfl
def k67 := mkK [(.t 2)] [] [] Tryz.func67 Tryz.ntmps67 rfl
def k36 := mkK [(.t 2)] [] [] Tryz.func36 Tryz.ntmps36 rfl
def k87 := mkK [(.t 2)] [] [] Tryz.func87 Tryz.ntmps87 rfl
def k68 := mkK [(.t 4)] [] [] Tryz.func68 Tryz.ntmps68 rfl
def k69 := mkK [(.t 2)] [] [] Tryz.func69 Tryz.ntmps69 rfl
def k167 := mkK [(.t 2)] [] [] Tryz.func167 Tryz.ntmps167 rfl
def k175 := mkK [(.t 2)] [] [] Tryz.func175 Tryz.ntmps175 rfl
def k151 := mkK [(.t 2)] [] [] Tryz.func151 Tryz.ntmps151 rfl
def k180 := mkK [(.t 4)] [] [] Tryz.func180 Tryz.ntmps180 rfl
def k84 := mkK [(.t 2)] [] [] Tryz.func84 Tryz.ntmps84 rfl
def k76 := mkK [(.t 2)] [] [] Tryz.func76 Tryz.ntmps76 rfl
def k164 := mkK [(.t 2)] [] [] Tryz.func164 Tryz.ntmps164 rfl
def k115 := mkK [(.t 6)] [] [] Tryz.func115 Tryz.ntmps115 rfl
def k111 := mkK [(.t 2)] [] [] Tryz.func111 Tryz.ntmps111 rfl
def k86 := mkK [(.t 2)] [] [] Tryz.func86 Tryz.ntmps86 rfl
def k176 := mkK [(.t 2)] [] [] Tryz.func176 Tryz.ntmps176 rfl
def k71 := mkK [(.t 2)] [] [] Tryz.func71 Tryz.ntmps71 rfl
def k168 := mkK [(.t 2)] [] [] Tryz.func168 Tryz.ntmps168 rfl
set_option maxHeartbeats 1000000
theorem wrap_in {n : Int} (h0 : -9223372036854775808 ≤ n) (h1 : n ≤ 9223372036854775807) : IntKind.i64.wrap n = n := by rw [IntKind.wrap_i64]; omega
theorem atyB : AppTy Tryz.prog 22 5 1 := AppTy.of (by kernel_rfl)
theorem scloneB (A : Option Addr) (n c : Nat) (cs : List Value) (z : Zc) (hr : RdAt z A 0 cs) (hl : cs.length = n * 1) (h1 : ∀ u ∈ cs, u.oneCell' = true) (hb : n ≤ 1000000000) :
  PSpec Tryz.prog 82 [.slice A n c] z fun v z' => ∃ A' c', v = .slice A' n c' ∧ n ≤ c' ∧ RdAt z' A' 0 cs := by
 refine eP k82 ?_
 refine gO ?_
 refine condI.split (fun h => ?_) (fun h => ?_)
 ·refine gO ?_
  (first|refine fN ?_|exact fZ)
  have hn : cs = [] := by
   cases A with
   | none =>
    rcases cs with _ | ⟨u, cs⟩
    ·rfl
    ·obtain ⟨b, o, e, _⟩ := hr (by simp); cases e
   | some a => simp at h
  subst hn
  have : n = 0 := by simp at hl; omega
  subst this
  exact ⟨_, 0, rfl, Nat.le_refl _, RdAt.nil _ _ _⟩
 ·refine gO ?_
  refine appM.toT (appM_empty 99 atyB rfl (.inr ⟨0, 0, rfl⟩) rfl hr hl h1 hb fun A' c' z' hz hc' hr' => ?_)
  simp only [seval, go_sem]
  refine gO ?_
  (first|refine fN ?_|exact fZ)
  exact ⟨A', c', rfl, hc', hr'⟩
theorem sclipB (A : Option Addr) (n c : Nat) (z : Zc) (hc : n ≤ c) (hb : n ≤ 1000000000) : PSpec Tryz.prog 81 [.slice A n c] z fun v z' => v = .slice A n n := by
 refine eP k81 ?_
 refine gO ?_
 refine ⟨by omega, ?_⟩
 refine gO ?_
 (first|refine fN ?_|exact fZ)
theorem cloneB (A : Option Addr) (n c : Nat) (cs : List Value) (z : Zc) (hr : RdAt z A 0 cs) (hl : cs.length = n * 1) (h1 : ∀ u ∈ cs, u.oneCell' = true) (hb : n ≤ 1000000000) :
  PSpec Tryz.prog 56 [.slice A n c] z fun v z' => ∃ A', v = .slice A' n n ∧ RdAt z' A' 0 cs := by
 refine eP k56 ?_
 refine gO ?_
 refine tT ?_; refine callP (scloneB A n c cs z hr hl h1 hb) rfl rfl ?_; rintro v z1 hz1 ⟨A1, c1, rfl, hc1, hr1⟩; refine gO ?_
 refine tT ?_; refine callP (sclipB A1 n c1 z1 hc1 hb) rfl rfl ?_; rintro v z2 hz2 rfl; refine gO ?_
 (first|refine fN ?_|exact fZ)
 exact ⟨A1, rfl, hr1.mono hz2⟩
theorem atyP : AppTy Tryz.prog 37 109 3 := AppTy.of (by kernel_rfl)
theorem scloneP (A : Option Addr) (n c : Nat) (cs : List Value) (z : Zc) (hr : RdAt z A 0 cs) (hl : cs.length = n * 3) (h1 : ∀ u ∈ cs, u.oneCell' = true) (hb : n ≤ 1000000000) :
  PSpec Tryz.prog 173 [.slice A n c] z fun v z' => ∃ A' c', v = .slice A' n c' ∧ n ≤ c' ∧ RdAt z' A' 0 cs := by
 refine eP k173 ?_
 refine gO ?_
 refine condI.split (fun h => ?_) (fun h => ?_)
 ·refine gO ?_
  (first|refine fN ?_|exact fZ)
  have hn : cs = [] := by
   cases A with
   | none =>
    rcases cs with _ | ⟨u, cs⟩
    ·rfl
    ·obtain ⟨b, o, e, _⟩ := hr (by simp); cases e
   | some a => simp at h
  subst hn
  have : n = 0 := by simp at hl; omega
  subst this
  exact ⟨_, 0, rfl, Nat.le_refl _, RdAt.nil _ _ _⟩
 ·refine gO ?_
  refine appM.toT (appM_empty 99 atyP rfl (.inr ⟨0, 0, rfl⟩) rfl hr hl h1 hb fun A' c' z' hz hc' hr' => ?_)
  simp only [seval, go_sem]
  refine gO ?_
  (first|refine fN ?_|exact fZ)
  exact ⟨A', c', rfl, hc', hr'⟩
theorem sclipP (A : Option Addr) (n c : Nat) (z : Zc) (hc : n ≤ c) (hb : n ≤ 1000000000) : PSpec Tryz.prog 172 [.slice A n c] z fun v z' => v = .slice A n n := by
 refine eP k172 ?_
 refine gO ?_
 refine ⟨by omega, ?_⟩
 refine gO ?_
 (first|refine fN ?_|exact fZ)
theorem cloneP (A : Option Addr) (n c : Nat) (cs : List Value) (z : Zc) (hr : RdAt z A 0 cs) (hl : cs.length = n * 3) (h1 : ∀ u ∈ cs, u.oneCell' = true) (hb : n ≤ 1000000000) :
  PSpec Tryz.prog 159 [.slice A n c] z fun v z' => ∃ A', v = .slice A' n n ∧ RdAt z' A' 0 cs := by
 refine eP k159 ?_
 refine gO ?_
 refine tT ?_; refine callP (scloneP A n c cs z hr hl h1 hb) rfl rfl ?_; rintro v z1 hz1 ⟨A1, c1, rfl, hc1, hr1⟩; refine gO ?_
 refine tT ?_; refine callP (sclipP A1 n c1 z1 hc1 hb) rfl rfl ?_; rintro v z2 hz2 rfl; refine gO ?_
 (first|refine fN ?_|exact fZ)
 exact ⟨A1, rfl, hr1.mono hz2⟩
theorem sclipM (A : Option Addr) (n c : Nat) (z : Zc) (hc : n ≤ c) (hb : n ≤ 1000000000) : PSpec Tryz.prog 131 [.slice A n c] z fun v z' => v = .slice A n n := by
 refine eP k131 ?_
 refine gO ?_
 refine ⟨by omega, ?_⟩
 refine gO ?_
 (first|refine fN ?_|exact fZ)
theorem cloneBy (l : List Int) (v : Value) (z : Zc) (h : By z l v) (hb : l.length ≤ 1000000000) : PSpec Tryz.prog 56 [v] z fun v' z' => ∃ A', v' = .slice A' l.length l.length ∧ Bys l ∧ RdAt z' A' 0 (bc l) := by
 obtain ⟨A, c, rfl, hc, hB, hr⟩ := h.form
 exact (cloneB A l.length c (bc l) z hr (by simp) (by intro u hu; obtain ⟨x, _, rfl⟩ := List.mem_map.1 hu; rfl) hb).mono fun v' z' hz ⟨A', h1, h2⟩ => ⟨A', h1, hB, h2⟩
theorem in_i (n lo hi : Int) (z : Zc) : PSpec Tryz.prog 38 [.int .i64 n, .int .i64 lo, .int .i64 hi] z fun v z' => v = .bool (inB n lo hi) ∧ z = z' := by
 refine eP k38 ?_
 refine gO ?_
 (with_reducible refine guardR.split (fun hg => ?_) (fun hg => ?_) <;> (try simp only [hg]) <;> simp only [seval, go_sem]) <;> (refine gO ?_; (first|refine fN ?_|exact fZ)) <;> simp only [and_true] <;> simp at hg <;> simp [inB, hg]
 omega
theorem in_s (n lo hi : Int) (z : Zc) : PSpec Tryz.prog 85 [.int .i64 n, .int .i64 lo, .int .i64 hi] z fun v z' => v = .bool (inB n lo hi) ∧ z = z' := by
 refine eP k85 ?_
 refine gO ?_
 (with_reducible refine guardR.split (fun hg => ?_) (fun hg => ?_) <;> (try simp only [hg]) <;> simp only [seval, go_sem]) <;> (refine gO ?_; (first|refine fN ?_|exact fZ)) <;> simp only [and_true] <;> simp at hg <;> simp [inB, hg]
 omega
theorem isnum (n : Int) (z : Zc) : PSpec Tryz.prog 67 [.int .i64 n] z fun v z' => v = .bool (isNum n) ∧ z = z' := by
 refine eP k67 ?_
 refine gO ?_
 refine tT ?_; refine callP (in_i n 0 7 z) rfl rfl ?_; rintro _ _ - ⟨rfl, rfl⟩; refine gO ?_
 (first|refine fN ?_|exact fZ)
 simp [isNum]
theorem cfgok_i (c : Cfg) (z : Zc) : PSpec Tryz.prog 36 [vCfg c] z fun v z' => v = .bool (cfgOk c) ∧ z = z' := by
 refine eP k36 ?_
 refine gO ?_
 refine tT ?_; refine callP (in_i c.mode 1 2 z) rfl rfl ?_; rintro _ _ - ⟨rfl, rfl⟩; refine gO ?_
 (with_reducible refine guardR.split (fun hg => ?_) (fun hg => ?_)); (rotate_left); (focus ((try simp only [hg]); simp only [seval, go_sem]; (refine gO ?_; (first|refine fN ?_|exact fZ); simp_all [cfgOk]))); (try simp only [hg]); refine gO ?_
 refine tT ?_; refine callP (in_i c.win 1 4 z) rfl rfl ?_; rintro _ _ - ⟨rfl, rfl⟩; refine gO ?_
 (with_reducible refine guardR.split (fun hg => ?_) (fun hg => ?_)); (rotate_left); (focus ((try simp only [hg]); simp only [seval, go_sem]; (refine gO ?_; (first|refine fN ?_|exact fZ); simp_all [cfgOk]))); (try simp only [hg]); refine gO ?_
 refine tT ?_; refine callP (in_i c.mps 1 8 z) rfl rfl ?_; rintro _ _ - ⟨rfl, rfl⟩; refine gO ?_
 (with_reducible refine guardR.split (fun hg => ?_) (fun hg => ?_)); (rotate_left); (focus ((try simp only [hg]); simp only [seval, go_sem]; (refine gO ?_; (first|refine fN ?_|exact fZ); simp_all [cfgOk]))); (try simp only [hg]); refine gO ?_
 refine tT ?_; refine callP (in_i c.mtu 1 24 z) rfl rfl ?_; rintro _ _ - ⟨rfl, rfl⟩; refine gO ?_
 (with_reducible refine guardR.split (fun hg => ?_) (fun hg => ?_)); (rotate_left); (focus ((try simp only [hg]); simp only [seval, go_sem]; (refine gO ?_; (first|refine fN ?_|exact fZ); simp_all [cfgOk]))); (try simp only [hg]); refine gO ?_
 refine tT ?_; refine callP (in_i c.tri 1 5 z) rfl rfl ?_; rintro _ _ - ⟨rfl, rfl⟩; refine gO ?_
 (refine gO ?_; (first|refine fN ?_|exact fZ); simp_all [cfgOk])
theorem cfgok_s (c : Cfg) (z : Zc) : PSpec Tryz.prog 87 [vCfg c] z fun v z' => v = .bool (cfgOk c) ∧ z = z' := by
 refine eP k87 ?_
 refine gO ?_
 refine tT ?_; refine callP (in_s c.mode 1 2 z) rfl rfl ?_; rintro _ _ - ⟨rfl, rfl⟩; refine gO ?_
 (with_reducible refine guardR.split (fun hg => ?_) (fun hg => ?_)); (rotate_left); (focus ((try simp only [hg]); simp only [seval, go_sem]; (refine gO ?_; (first|refine fN ?_|exact fZ); simp_all [cfgOk]))); (try simp only [hg]); refine gO ?_
 refine tT ?_; refine callP (in_s c.win 1 4 z) rfl rfl ?_; rintro _ _ - ⟨rfl, rfl⟩; refine gO ?_
 (with_reducible refine guardR.split (fun hg => ?_) (fun hg => ?_)); (rotate_left); (focus ((try simp only [hg]); simp only [seval, go_sem]; (refine gO ?_; (first|refine fN ?_|exact fZ); simp_all [cfgOk]))); (try simp only [hg]); refine gO ?_
 refine tT ?_; refine callP (in_s c.mps 1 8 z) rfl rfl ?_; rintro _ _ - ⟨rfl, rfl⟩; refine gO ?_
 (with_reducible refine guardR.split (fun hg => ?_) (fun hg => ?_)); (rotate_left); (focus ((try simp only [hg]); simp only [seval, go_sem]; (refine gO ?_; (first|refine fN ?_|exact fZ); simp_all [cfgOk]))); (try simp only [hg]); refine gO ?_
 refine tT ?_; refine callP (in_s c.mtu 1 24 z) rfl rfl ?_; rintro _ _ - ⟨rfl, rfl⟩; refine gO ?_
 (with_reducible refine guardR.split (fun hg => ?_) (fun hg => ?_)); (rotate_left); (focus ((try simp only [hg]); simp only [seval, go_sem]; (refine gO ?_; (first|refine fN ?_|exact fZ); simp_all [cfgOk]))); (try simp only [hg]); refine gO ?_
 refine tT ?_; refine callP (in_s c.tri 1 5 z) rfl rfl ?_; rintro _ _ - ⟨rfl, rfl⟩; refine gO ?_
 (refine gO ?_; (first|refine fN ?_|exact fZ); simp_all [cfgOk])
theorem numnext_i (n : Int) (z : Zc) (h : 0 ≤ n ∧ n ≤ 1000000) : PSpec Tryz.prog 175 [.int .i64 n] z fun v z' => v = .int .i64 (numNext n) ∧ z = z' := by
 refine eP k175 ?_
 refine gO ?_
 (first|refine fN ?_|exact fZ)
 rw [wrap_in (by omega) (by omega)]
 simp [numNext]
theorem numof_i (n : Int) (z : Zc) (h : 0 ≤ n ∧ n ≤ 1000000) : PSpec Tryz.prog 69 [.int .i64 n] z fun v z' => v = .int .i64 (numOf n) ∧ z = z' := by
 refine eP k69 ?_
 refine gO ?_
 (with_reducible refine condI.split (fun hg => ?_) (fun hg => ?_) <;> (try simp only [hg]) <;> (try simp only [seval, go_sem]))
 ·simp at hg; omega
 ·refine gO ?_
  (first|refine fN ?_|exact fZ)
  rw [Int.tmod_eq_emod_of_nonneg (by omega)]
  simp [numOf]; omega
theorem numnext_s (n : Int) (z : Zc) (h : 0 ≤ n ∧ n ≤ 1000000) : PSpec Tryz.prog 151 [.int .i64 n] z fun v z' => v = .int .i64 (numNext n) ∧ z = z' := by
 refine eP k151 ?_
 refine gO ?_
 (first|refine fN ?_|exact fZ)
 rw [wrap_in (by omega) (by omega)]
 simp [numNext]
theorem numof_s (n : Int) (z : Zc) (h : 0 ≤ n ∧ n ≤ 1000000) : PSpec Tryz.prog 167 [.int .i64 n] z fun v z' => v = .int .i64 (numOf n) ∧ z = z' := by
 refine eP k167 ?_
 refine gO ?_
 (with_reducible refine condI.split (fun hg => ?_) (fun hg => ?_) <;> (try simp only [hg]) <;> (try simp only [seval, go_sem]))
 ·simp at hg; omega
 ·refine gO ?_
  (first|refine fN ?_|exact fZ)
  rw [Int.tmod_eq_emod_of_nonneg (by omega)]
  simp [numOf]; omega
theorem far_i (a b : Int) (z : Zc) (h : 0 ≤ a ∧ a ≤ 1000000) (h : 0 ≤ b ∧ b ≤ 1000000) (h : a - 8 ≤ b) : PSpec Tryz.prog 68 [.int .i64 a, .int .i64 b] z fun v z' => v = .int .i64 (far a b) ∧ z = z' := by
 refine eP k68 ?_
 refine gO ?_
 (first|refine fN ?_|exact fZ)
 rw [wrap_in (n := b - a) (by omega) (by omega)]
 rw [wrap_in (by omega) (by omega)]
 rw [Int.tmod_eq_emod_of_nonneg (by omega)]
 simp [far]
theorem numfar_s (a b : Int) (z : Zc) : PSpec Tryz.prog 180 [.int .i64 a, .int .i64 b] z fun v z' => v = .int .i64 (numFar a b) ∧ z = z' := by
 refine eP k180 ?_
 (try simp only [seval, go_sem]); repeat' (first | (with_reducible refine vsI.id ?_; (try simp only [seval, go_sem])) | (with_reducible refine vcI_cond ?_; (try simp only [seval, go_sem])) | (with_reducible refine guardR.split (fun hg => ?_) (fun hg => ?_) <;> (try simp only [hg]) <;> simp only [seval, go_sem]) | (with_reducible refine condI.split (fun hg => ?_) (fun hg => ?_) <;> (try simp only [hg]) <;> (try simp only [seval, go_sem])) | (with_reducible refine callM.toT ?_) | (refine callP (in_s _ _ _ _) rfl rfl ?_; rintro _ _ - ⟨rfl, rfl⟩; (try simp only [seval, go_sem])))
 ·(first|refine fN ?_|exact fZ); simp_all [numFar, isNum]
 ·(first|refine fN ?_|exact fZ); simp_all [numFar, isNum]
 ·simp only [Bool.not_eq_false'] at *
  have h1 := inB_iff.1 (by assumption : inB a 0 7 = true)
  have h2 := inB_iff.1 (by assumption : inB b 0 7 = true)
  (first|refine fN ?_|exact fZ)
  rw [wrap_in (n := b - a) (by omega) (by omega)]
  rw [wrap_in (by omega) (by omega)]
  rw [Int.tmod_eq_emod_of_nonneg (by omega)]
  simp_all [numFar, isNum, far]
theorem pieceok_i (seg len : Int) (A : Option Addr) (n c : Nat) (z : Zc) (h : n ≤ 1000000000) : PSpec Tryz.prog 115 [.int .i64 seg, .int .i64 len, .slice A n c] z fun v z' => v = .bool (pieceOk seg len n) ∧ z = z' := by
 refine eP k115 ?_
 (try simp only [seval, go_sem]); repeat' (first | (with_reducible refine vsI.id ?_; (try simp only [seval, go_sem])) | (with_reducible refine vcI_cond ?_; (try simp only [seval, go_sem])) | (with_reducible refine guardR.split (fun hg => ?_) (fun hg => ?_) <;> (try simp only [hg]) <;> simp only [seval, go_sem]) | (with_reducible refine condI.split (fun hg => ?_) (fun hg => ?_) <;> (try simp only [hg]) <;> (try simp only [seval, go_sem])) | (with_reducible refine callM.toT ?_) | (refine callP (in_i _ _ _ _) rfl rfl ?_; rintro _ _ - ⟨rfl, rfl⟩; (try simp only [seval, go_sem])))
 all_goals (try ((first|refine fN ?_|exact fZ); (try simp only [inB_iff, inB_no, isNum_iff, beq_iff_eq, decide_eq_true_eq, decide_eq_false_iff_not, beq_eq_false_iff_ne, bne_iff_ne, bne_eq_false_iff_eq, Bool.not_eq_true', Bool.not_eq_false', and_true] at *); (try simp (disch := omega) only [wrap_in, Int.tmod_eq_emod_of_nonneg] at *); (try simp only [and_true]); first | rfl | (simp_all [pieceOk]; done) | (refine congrArg Value.bool (Bool.eq_iff_iff.2 ?_); simp [*, pieceOk, inB_iff]; done) | (refine congrArg Value.bool (Bool.eq_iff_iff.2 ?_); simp [*, pieceOk, inB_iff]; omega) | (simp_all [pieceOk]; omega)))
theorem partok_i (p : Part) (A : Option Addr) (n c : Nat) (z : Zc) (h : p.data.length ≤ 1000000000) (hn : p.data.length = n) : PSpec Tryz.prog 111 [vPart p (.slice A n c)] z fun v z' => v = .bool (partOk p) ∧ z = z' := by
 refine eP k111 ?_
 (try simp only [seval, go_sem]); repeat' (first | (with_reducible refine vsI.id ?_; (try simp only [seval, go_sem])) | (with_reducible refine vcI_cond ?_; (try simp only [seval, go_sem])) | (with_reducible refine guardR.split (fun hg => ?_) (fun hg => ?_) <;> (try simp only [hg]) <;> simp only [seval, go_sem]) | (with_reducible refine condI.split (fun hg => ?_) (fun hg => ?_) <;> (try simp only [hg]) <;> (try simp only [seval, go_sem])) | (with_reducible refine callM.toT ?_) | (refine callP (pieceok_i _ _ _ _ _ _ (by omega)) rfl rfl ?_; rintro _ _ - ⟨rfl, rfl⟩; (try simp only [seval, go_sem])))
 all_goals (try ((first|refine fN ?_|exact fZ); (try simp only [inB_iff, inB_no, isNum_iff, beq_iff_eq, decide_eq_true_eq, decide_eq_false_iff_not, beq_eq_false_iff_ne, bne_iff_ne, bne_eq_false_iff_eq, Bool.not_eq_true', Bool.not_eq_false', and_true] at *); (try simp (disch := omega) only [wrap_in, Int.tmod_eq_emod_of_nonneg] at *); (try simp only [and_true]); first | rfl | (simp_all [partOk]; done) | (refine congrArg Value.bool (Bool.eq_iff_iff.2 ?_); simp [*, partOk, inB_iff]; done) | (refine congrArg Value.bool (Bool.eq_iff_iff.2 ?_); simp [*, partOk, inB_iff]; omega) | (simp_all [partOk]; omega)))
theorem joinok_i (j : Join) (A : Option Addr) (c : Nat) (z : Zc) (h : j.got.length ≤ 1000000000) (hj : -1000000000 ≤ j.len) : PSpec Tryz.prog 71 [vJoin j (.slice A j.got.length c)] z fun v z' => v = .bool (joinOk j) ∧ z = z' := by
 refine eP k71 ?_
 (try simp only [seval, go_sem]); repeat' (first | (with_reducible refine vsI.id ?_; (try simp only [seval, go_sem])) | (with_reducible refine vcI_cond ?_; (try simp only [seval, go_sem])) | (with_reducible refine guardR.split (fun hg => ?_) (fun hg => ?_) <;> (try simp only [hg]) <;> simp only [seval, go_sem]) | (with_reducible refine condI.split (fun hg => ?_) (fun hg => ?_) <;> (try simp only [hg]) <;> (try simp only [seval, go_sem])) | (with_reducible refine callM.toT ?_) | (refine callP (in_i _ _ _ _) rfl rfl ?_; rintro _ _ - ⟨rfl, rfl⟩; (try simp only [seval, go_sem])))
 all_goals (first | ((first|refine fN ?_|exact fZ); (try simp only [inB_iff, inB_no, isNum_iff, beq_iff_eq, decide_eq_true_eq, decide_eq_false_iff_not, beq_eq_false_iff_ne, bne_iff_ne, bne_eq_false_iff_eq, Bool.not_eq_true', Bool.not_eq_false', and_true] at *); (try simp (disch := omega) only [wrap_in, Int.tmod_eq_emod_of_nonneg] at *); (try simp only [and_true]); first | rfl | (simp_all [joinOk]; done) | (refine congrArg Value.bool (Bool.eq_iff_iff.2 ?_); simp [*, joinOk, inB_iff]; done) | (refine congrArg Value.bool (Bool.eq_iff_iff.2 ?_); simp [*, joinOk, inB_iff]; omega) | (simp_all [joinOk]; omega)) | ((first|refine fN ?_|exact fZ); (try simp only [inB_iff, inB_no, isNum_iff, beq_iff_eq, decide_eq_true_eq, decide_eq_false_iff_not, beq_eq_false_iff_ne, bne_iff_ne, bne_eq_false_iff_eq, Bool.not_eq_true', Bool.not_eq_false', and_true] at *); (try simp (disch := omega) only [wrap_in, Int.tmod_eq_emod_of_nonneg] at *); (try simp only [and_true]); (refine congrArg Value.bool (Bool.eq_iff_iff.2 ?_)); (simp only [joinOk_iff, JoinI, ← List.length_eq_zero_iff, inB_iff, inB_no, isNum_iff, beq_iff_eq, decide_eq_true_eq, Bool.and_eq_true, Bool.or_eq_true, Bool.false_eq_true, false_iff, true_iff, iff_true, iff_false, Bool.not_eq_true']); omega))
theorem joinok_s (j : Join) (A : Option Addr) (c : Nat) (z : Zc) (h : j.got.length ≤ 1000000000) (hj : -1000000000 ≤ j.len) : PSpec Tryz.prog 168 [vJoin j (.slice A j.got.length c)] z fun v z' => v = .bool (joinOk j) ∧ z = z' := by
 refine eP k168 ?_
 (try simp only [seval, go_sem]); repeat' (first | (with_reducible refine vsI.id ?_; (try simp only [seval, go_sem])) | (with_reducible refine vcI_cond ?_; (try simp only [seval, go_sem])) | (with_reducible refine guardR.split (fun hg => ?_) (fun hg => ?_) <;> (try simp only [hg]) <;> simp only [seval, go_sem]) | (with_reducible refine condI.split (fun hg => ?_) (fun hg => ?_) <;> (try simp only [hg]) <;> (try simp only [seval, go_sem])) | (with_reducible refine callM.toT ?_) | (refine callP (in_s _ _ _ _) rfl rfl ?_; rintro _ _ - ⟨rfl, rfl⟩; (try simp only [seval, go_sem])))
 all_goals (first | ((first|refine fN ?_|exact fZ); (try simp only [inB_iff, inB_no, isNum_iff, beq_iff_eq, decide_eq_true_eq, decide_eq_false_iff_not, beq_eq_false_iff_ne, bne_iff_ne, bne_eq_false_iff_eq, Bool.not_eq_true', Bool.not_eq_false', and_true] at *); (try simp (disch := omega) only [wrap_in, Int.tmod_eq_emod_of_nonneg] at *); (try simp only [and_true]); first | rfl | (simp_all [joinOk]; done) | (refine congrArg Value.bool (Bool.eq_iff_iff.2 ?_); simp [*, joinOk, inB_iff]; done) | (refine congrArg Value.bool (Bool.eq_iff_iff.2 ?_); simp [*, joinOk, inB_iff]; omega) | (simp_all [joinOk]; omega)) | ((first|refine fN ?_|exact fZ); (try simp only [inB_iff, inB_no, isNum_iff, beq_iff_eq, decide_eq_true_eq, decide_eq_false_iff_not, beq_eq_false_iff_ne, bne_iff_ne, bne_eq_false_iff_eq, Bool.not_eq_true', Bool.not_eq_false', and_true] at *); (try simp (disch := omega) only [wrap_in, Int.tmod_eq_emod_of_nonneg] at *); (try simp only [and_true]); (refine congrArg Value.bool (Bool.eq_iff_iff.2 ?_)); (simp only [joinOk_iff, JoinI, ← List.length_eq_zero_iff, inB_iff, inB_no, isNum_iff, beq_iff_eq, decide_eq_true_eq, Bool.and_eq_true, Bool.or_eq_true, Bool.false_eq_true, false_iff, true_iff, iff_true, iff_false, Bool.not_eq_true']); omega))
theorem truth_i (b : Bool) (z : Zc) : PSpec Tryz.prog 84 [.bool b] z fun v z' => v = .int .i64 (bit b) ∧ z = z' := by
 refine eP k84 ?_
 (try simp only [seval, go_sem]); repeat' (first | (with_reducible refine vsI.id ?_; (try simp only [seval, go_sem])) | (with_reducible refine vcI_cond ?_; (try simp only [seval, go_sem])) | (with_reducible refine guardR.split (fun hg => ?_) (fun hg => ?_) <;> (try simp only [hg]) <;> simp only [seval, go_sem]) | (with_reducible refine condI.split (fun hg => ?_) (fun hg => ?_) <;> (try simp only [hg]) <;> (try simp only [seval, go_sem])) | (with_reducible refine callM.toT ?_))
 all_goals ((first|refine fN ?_|exact fZ); (try simp only [inB_iff, inB_no, isNum_iff, beq_iff_eq, decide_eq_true_eq, decide_eq_false_iff_not, beq_eq_false_iff_ne, bne_iff_ne, bne_eq_false_iff_eq, Bool.not_eq_true', Bool.not_eq_false', and_true] at *); (try simp (disch := omega) only [wrap_in, Int.tmod_eq_emod_of_nonneg] at *); (try simp only [and_true]); first | rfl | (simp_all [bit]; done) | (refine congrArg Value.bool (Bool.eq_iff_iff.2 ?_); simp [*, bit, inB_iff]; done) | (refine congrArg Value.bool (Bool.eq_iff_iff.2 ?_); simp [*, bit, inB_iff]; omega) | (simp_all [bit]; omega))
theorem bit_s (b : Bool) (z : Zc) : PSpec Tryz.prog 76 [.bool b] z fun v z' => v = .int .i64 (bit b) ∧ z = z' := by
 refine eP k76 ?_
 (try simp only [seval, go_sem]); repeat' (first | (with_reducible refine vsI.id ?_; (try simp only [seval, go_sem])) | (with_reducible refine vcI_cond ?_; (try simp only [seval, go_sem])) | (with_reducible refine guardR.split (fun hg => ?_) (fun hg => ?_) <;> (try simp only [hg]) <;> simp only [seval, go_sem]) | (with_reducible refine condI.split (fun hg => ?_) (fun hg => ?_) <;> (try simp only [hg]) <;> (try simp only [seval, go_sem])) | (with_reducible refine callM.toT ?_))
 all_goals ((first|refine fN ?_|exact fZ); (try simp only [inB_iff, inB_no, isNum_iff, beq_iff_eq, decide_eq_true_eq, decide_eq_false_iff_not, beq_eq_false_iff_ne, bne_iff_ne, bne_eq_false_iff_eq, Bool.not_eq_true', Bool.not_eq_false', and_true] at *); (try simp (disch := omega) only [wrap_in, Int.tmod_eq_emod_of_nonneg] at *); (try simp only [and_true]); first | rfl | (simp_all [bit]; done) | (refine congrArg Value.bool (Bool.eq_iff_iff.2 ?_); simp [*, bit, inB_iff]; done) | (refine congrArg Value.bool (Bool.eq_iff_iff.2 ?_); simp [*, bit, inB_iff]; omega) | (simp_all [bit]; omega))
theorem gowait_i (b : Bool) (z : Zc) : PSpec Tryz.prog 164 [.bool b] z fun v z' => v = .int .i64 (goWait b) ∧ z = z' := by
 refine eP k164 ?_
 (try simp only [seval, go_sem]); repeat' (first | (with_reducible refine vsI.id ?_; (try simp only [seval, go_sem])) | (with_reducible refine vcI_cond ?_; (try simp only [seval, go_sem])) | (with_reducible refine guardR.split (fun hg => ?_) (fun hg => ?_) <;> (try simp only [hg]) <;> simp only [seval, go_sem]) | (with_reducible refine condI.split (fun hg => ?_) (fun hg => ?_) <;> (try simp only [hg]) <;> (try simp only [seval, go_sem])) | (with_reducible refine callM.toT ?_))
 all_goals ((first|refine fN ?_|exact fZ); (try simp only [inB_iff, inB_no, isNum_iff, beq_iff_eq, decide_eq_true_eq, decide_eq_false_iff_not, beq_eq_false_iff_ne, bne_iff_ne, bne_eq_false_iff_eq, Bool.not_eq_true', Bool.not_eq_false', and_true] at *); (try simp (disch := omega) only [wrap_in, Int.tmod_eq_emod_of_nonneg] at *); (try simp only [and_true]); first | rfl | (simp_all [goWait]; done) | (refine congrArg Value.bool (Bool.eq_iff_iff.2 ?_); simp [*, goWait, inB_iff]; done) | (refine congrArg Value.bool (Bool.eq_iff_iff.2 ?_); simp [*, goWait, inB_iff]; omega) | (simp_all [goWait]; omega))
theorem l2seg_s (f : Frm) (A : Option Addr) (c : Nat) (z : Zc) (h : f.data.length ≤ 1000000000) : PSpec Tryz.prog 86 [vFrm f (.slice A f.data.length c)] z fun v z' => v = .bool (pieceOk f.seg f.len f.data.length) ∧ z = z' := by
 refine eP k86 ?_
 (try simp only [seval, go_sem]); repeat' (first | (with_reducible refine vsI.id ?_; (try simp only [seval, go_sem])) | (with_reducible refine vcI_cond ?_; (try simp only [seval, go_sem])) | (with_reducible refine guardR.split (fun hg => ?_) (fun hg => ?_) <;> (try simp only [hg]) <;> simp only [seval, go_sem]) | (with_reducible refine condI.split (fun hg => ?_) (fun hg => ?_) <;> (try simp only [hg]) <;> (try simp only [seval, go_sem])) | (with_reducible refine callM.toT ?_) | (refine callP (in_s _ _ _ _) rfl rfl ?_; rintro _ _ - ⟨rfl, rfl⟩; (try simp only [seval, go_sem])))
 all_goals (first | ((first|refine fN ?_|exact fZ); (try simp only [inB_iff, inB_no, isNum_iff, beq_iff_eq, decide_eq_true_eq, decide_eq_false_iff_not, beq_eq_false_iff_ne, bne_iff_ne, bne_eq_false_iff_eq, Bool.not_eq_true', Bool.not_eq_false', and_true] at *); (try simp (disch := omega) only [wrap_in, Int.tmod_eq_emod_of_nonneg] at *); (try simp only [and_true]); (refine congrArg Value.bool (Bool.eq_iff_iff.2 ?_)); (simp only [pieceOk_iff, inB_iff, inB_no, isNum_iff, beq_iff_eq, decide_eq_true_eq, Bool.and_eq_true, Bool.or_eq_true, Bool.false_eq_true, false_iff, true_iff, iff_true, iff_false, Bool.not_eq_true']); omega) | ((first|refine fN ?_|exact fZ); (try simp only [inB_iff, inB_no, isNum_iff, beq_iff_eq, decide_eq_true_eq, decide_eq_false_iff_not, beq_eq_false_iff_ne, bne_iff_ne, bne_eq_false_iff_eq, Bool.not_eq_true', Bool.not_eq_false', and_true] at *); (try simp (disch := omega) only [wrap_in, Int.tmod_eq_emod_of_nonneg] at *); (try simp only [and_true]); first | rfl | (simp_all [pieceOk, inB]; done) | (refine congrArg Value.bool (Bool.eq_iff_iff.2 ?_); simp [*, pieceOk, inB, inB_iff]; done) | (refine congrArg Value.bool (Bool.eq_iff_iff.2 ?_); simp [*, pieceOk, inB, inB_iff]; omega) | (simp_all [pieceOk, inB]; omega)))
theorem partok_s (p : Part) (A : Option Addr) (c : Nat) (z : Zc) (h : p.data.length ≤ 1000000000) : PSpec Tryz.prog 176 [vPart p (.slice A p.data.length c)] z fun v z' => v = .bool (partOk p) ∧ z = z' := by
 refine eP k176 ?_
 (try simp only [seval, go_sem]); repeat' (first | (with_reducible refine vsI.id ?_; (try simp only [seval, go_sem])) | (with_reducible refine vcI_cond ?_; (try simp only [seval, go_sem])) | (with_reducible refine guardR.split (fun hg => ?_) (fun hg => ?_) <;> (try simp only [hg]) <;> simp only [seval, go_sem]) | (with_reducible refine condI.split (fun hg => ?_) (fun hg => ?_) <;> (try simp only [hg]) <;> (try simp only [seval, go_sem])) | (with_reducible refine callM.toT ?_) | (refine callP (l2seg_s ⟨0, 0, 0, false, false, 0, p.seg, p.len, p.data⟩ _ _ _ (by omega)) rfl rfl ?_; rintro _ _ - ⟨rfl, rfl⟩; (try simp only [seval, go_sem])))
 all_goals (try ((first|refine fN ?_|exact fZ); (try simp only [inB_iff, inB_no, isNum_iff, beq_iff_eq, decide_eq_true_eq, decide_eq_false_iff_not, beq_eq_false_iff_ne, bne_iff_ne, bne_eq_false_iff_eq, Bool.not_eq_true', Bool.not_eq_false', and_true] at *); (try simp (disch := omega) only [wrap_in, Int.tmod_eq_emod_of_nonneg] at *); (try simp only [and_true]); first | rfl | (simp_all [partOk]; done) | (refine congrArg Value.bool (Bool.eq_iff_iff.2 ?_); simp [*, partOk, inB_iff]; done) | (refine congrArg Value.bool (Bool.eq_iff_iff.2 ?_); simp [*, partOk, inB_iff]; omega) | (simp_all [partOk]; omega)))
set_option maxHeartbeats 4000000
def k147 := mkK [(.t 4)] [] [] Tryz.func147 Tryz.ntmps147 rfl
def k109 := mkK [(.t 4)] [] [] Tryz.func109 Tryz.ntmps109 rfl
def k70 := mkK [(.t 4)] [] [] Tryz.func70 Tryz.ntmps70 rfl
def k110 := mkK [(.t 3)] [] [] Tryz.func110 Tryz.ntmps110 rfl
def k74 := mkK [(.t 4)] [] [] Tryz.func74 Tryz.ntmps74 rfl
def k44 := mkK [(.t 4)] [] [] Tryz.func44 Tryz.ntmps44 rfl
def k112 := mkK [(.t 4)] [] [] Tryz.func112 Tryz.ntmps112 rfl
def k72 := mkK [(.t 4)] [] [] Tryz.func72 Tryz.ntmps72 rfl
def k43 := mkK [(.t 2)] [] [] Tryz.func43 Tryz.ntmps43 rfl
def k73 := mkK [(.t 2)] [] [] Tryz.func73 Tryz.ntmps73 rfl
set_option maxHeartbeats 200000
theorem any_take {α : Type} {p : α → Bool} {l : List α} {i : Nat} {x : α} (hx : l[i]? = some x) (ht : (l.take i).any p = false) (hp : p x = false) : (l.take (i + 1)).any p = false := by
 rw [List.take_add_one, List.any_append, ht, hx]; simp [hp]
theorem any_of {α : Type} {p : α → Bool} {l : List α} {i : Nat} {x : α} (hx : l[i]? = some x) (hp : p x = true) : l.any p = true := List.any_eq_true.2 ⟨x, List.mem_of_getElem? hx, hp⟩
def datP (p : Part) : List Int := p.data
def datM (p : Msg) : List Int := p.bytes
def datS (p : List Int) : List Int := p
abbrev vMsg (m : Msg) (v : Value) : Value := .agg #[.bool m.bent, v]
theorem indexP {p : Part → Bool} {fn : FuncId} {caps : List Value} {l : List Part} {A : Option Addr} {c : Nat} {cs : List Value} {z : Zc} (he : Els pRep z l cs) (hr : RdAt z A 0 cs) (hl : l.length ≤ 1000000000) (hok : callOk Tryz.prog fn = true)
  (hf : ∀ x ∈ l, ∀ v, By z (datP x) v → PSpec Tryz.prog fn ([vPart x v] ++ caps) z fun u z' => u = .bool (p x) ∧ z = z') :
  PSpec Tryz.prog 147 [.slice A l.length c, .func (.func fn) #[] caps.toArray] z fun v z' => (∃ i : Int, v = .int .i64 i ∧ decide (0 ≤ i) = l.any p) ∧ z = z' := by
 refine eP k147 ?_
 refine gO ?_
 refine loop_upd (ι := Nat) (n := 0) (fun i => i ≤ l.length ∧ (l.take i).any p = false) (fun i => [(8, .c (.v (.int .i64 i)))]) (fun _ => []) (fun _ => z) (fun i => l.length - i) 0 (by simp) (by (simp only [wrI, wrR, anyL, st, List.append_nil, List.nil_append, List.cons_append]); exact rfl) ?_ ?_
 ·exact lE
 ·rintro i ⟨hi, ht⟩
  refine gO ?_
  (with_reducible refine condI.split (fun hg => ?_) (fun hg => ?_) <;> (try simp only [hg]) <;> (try simp only [seval, go_sem]))
  ·refine gO ?_
   have hi' : i < l.length := by simp at hg; omega
   obtain ⟨x, hx⟩ : ∃ x, l[i]? = some x := ⟨_, List.getElem?_eq_getElem hi'⟩
   obtain ⟨c1, ⟨v, rfl, hb⟩, hr1⟩ := he.at hr hx
   (refine ⟨⟨by omega, by omega, he.isAt hr (by decide) hi'⟩, ?_⟩; (try simp only [seval, go_sem]))
   (refine ldF.agg _ rfl (by first | exact .inl hr1 | exact hr1) ?_; (try simp only [seval, go_sem]))
   ((try with_reducible refine othM.toT ?_); refine oth_call rfl hok rfl rfl (hf x (List.mem_of_getElem? hx) v hb) ?_; rintro _ _ - ⟨rfl, rfl⟩; refine gO ?_)
   (with_reducible refine condI.split (fun hg => ?_) (fun hg => ?_) <;> (try simp only [hg]) <;> (try simp only [seval, go_sem]))
   ·refine gO ?_
    (first|refine fN ?_|exact fZ)
    simp [any_of hx hg]
   ·refine gO ?_
    refine ⟨i + 1, ⟨by omega, any_take hx ht hg⟩, by omega, ?_⟩
    exact lE
  ·refine gO ?_
   (first|refine fN ?_|exact fZ)
   have : i = l.length := by simp at hg; omega
   subst this
   simp at ht
   simpa using ht
theorem containsP {p : Part → Bool} {fn : FuncId} {caps : List Value} {l : List Part} {A : Option Addr} {c : Nat} {cs : List Value} {z : Zc} (he : Els pRep z l cs) (hr : RdAt z A 0 cs) (hl : l.length ≤ 1000000000) (hok : callOk Tryz.prog fn = true)
  (hf : ∀ x ∈ l, ∀ v, By z (datP x) v → PSpec Tryz.prog fn ([vPart x v] ++ caps) z fun u z' => u = .bool (p x) ∧ z = z') :
  PSpec Tryz.prog 109 [.slice A l.length c, .func (.func fn) #[] caps.toArray] z fun v z' => v = .bool (l.any p) ∧ z = z' := by
 refine eP k109 ?_
 refine gO ?_
 refine tT ?_; refine callP (indexP he hr hl hok hf) rfl rfl ?_; rintro _ _ - ⟨⟨i, rfl, hi⟩, rfl⟩; refine gO ?_
 (first|refine fN ?_|exact fZ)
 simp [← hi]
theorem indexM {p : Msg → Bool} {fn : FuncId} {caps : List Value} {l : List Msg} {A : Option Addr} {c : Nat} {cs : List Value} {z : Zc} (he : Els mRep z l cs) (hr : RdAt z A 0 cs) (hl : l.length ≤ 1000000000) (hok : callOk Tryz.prog fn = true)
  (hf : ∀ x ∈ l, ∀ v, By z (datM x) v → PSpec Tryz.prog fn ([vMsg x v] ++ caps) z fun u z' => u = .bool (p x) ∧ z = z') :
  PSpec Tryz.prog 74 [.slice A l.length c, .func (.func fn) #[] caps.toArray] z fun v z' => (∃ i : Int, v = .int .i64 i ∧ decide (0 ≤ i) = l.any p) ∧ z = z' := by
 refine eP k74 ?_
 refine gO ?_
 refine loop_upd (ι := Nat) (n := 0) (fun i => i ≤ l.length ∧ (l.take i).any p = false) (fun i => [(8, .c (.v (.int .i64 i)))]) (fun _ => []) (fun _ => z) (fun i => l.length - i) 0 (by simp) (by (simp only [wrI, wrR, anyL, st, List.append_nil, List.nil_append, List.cons_append]); exact rfl) ?_ ?_
 ·exact lE
 ·rintro i ⟨hi, ht⟩
  refine gO ?_
  (with_reducible refine condI.split (fun hg => ?_) (fun hg => ?_) <;> (try simp only [hg]) <;> (try simp only [seval, go_sem]))
  ·refine gO ?_
   have hi' : i < l.length := by simp at hg; omega
   obtain ⟨x, hx⟩ : ∃ x, l[i]? = some x := ⟨_, List.getElem?_eq_getElem hi'⟩
   obtain ⟨c1, ⟨v, rfl, hb⟩, hr1⟩ := he.at hr hx
   (refine ⟨⟨by omega, by omega, he.isAt hr (by decide) hi'⟩, ?_⟩; (try simp only [seval, go_sem]))
   (refine ldF.agg _ rfl (by first | exact .inl hr1 | exact hr1) ?_; (try simp only [seval, go_sem]))
   ((try with_reducible refine othM.toT ?_); refine oth_call rfl hok rfl rfl (hf x (List.mem_of_getElem? hx) v hb) ?_; rintro _ _ - ⟨rfl, rfl⟩; refine gO ?_)
   (with_reducible refine condI.split (fun hg => ?_) (fun hg => ?_) <;> (try simp only [hg]) <;> (try simp only [seval, go_sem]))
   ·refine gO ?_
    (first|refine fN ?_|exact fZ)
    simp [any_of hx hg]
   ·refine gO ?_
    refine ⟨i + 1, ⟨by omega, any_take hx ht hg⟩, by omega, ?_⟩
    exact lE
  ·refine gO ?_
   (first|refine fN ?_|exact fZ)
   have : i = l.length := by simp at hg; omega
   subst this
   simp at ht
   simpa using ht
theorem containsM {p : Msg → Bool} {fn : FuncId} {caps : List Value} {l : List Msg} {A : Option Addr} {c : Nat} {cs : List Value} {z : Zc} (he : Els mRep z l cs) (hr : RdAt z A 0 cs) (hl : l.length ≤ 1000000000) (hok : callOk Tryz.prog fn = true)
  (hf : ∀ x ∈ l, ∀ v, By z (datM x) v → PSpec Tryz.prog fn ([vMsg x v] ++ caps) z fun u z' => u = .bool (p x) ∧ z = z') :
  PSpec Tryz.prog 44 [.slice A l.length c, .func (.func fn) #[] caps.toArray] z fun v z' => v = .bool (l.any p) ∧ z = z' := by
 refine eP k44 ?_
 refine gO ?_
 refine tT ?_; refine callP (indexM he hr hl hok hf) rfl rfl ?_; rintro _ _ - ⟨⟨i, rfl, hi⟩, rfl⟩; refine gO ?_
 (first|refine fN ?_|exact fZ)
 simp [← hi]
theorem indexS {p : (List Int) → Bool} {fn : FuncId} {caps : List Value} {l : List (List Int)} {A : Option Addr} {c : Nat} {cs : List Value} {z : Zc} (he : Els sduRep z l cs) (hr : RdAt z A 0 cs) (hl : l.length ≤ 1000000000) (hok : callOk Tryz.prog fn = true)
  (hf : ∀ x ∈ l, ∀ v, By z (datS x) v → PSpec Tryz.prog fn ([v] ++ caps) z fun u z' => u = .bool (p x) ∧ z = z') :
  PSpec Tryz.prog 112 [.slice A l.length c, .func (.func fn) #[] caps.toArray] z fun v z' => (∃ i : Int, v = .int .i64 i ∧ decide (0 ≤ i) = l.any p) ∧ z = z' := by
 refine eP k112 ?_
 refine gO ?_
 refine loop_upd (ι := Nat) (n := 0) (fun i => i ≤ l.length ∧ (l.take i).any p = false) (fun i => [(8, .c (.v (.int .i64 i)))]) (fun _ => []) (fun _ => z) (fun i => l.length - i) 0 (by simp) (by (simp only [wrI, wrR, anyL, st, List.append_nil, List.nil_append, List.cons_append]); exact rfl) ?_ ?_
 ·exact lE
 ·rintro i ⟨hi, ht⟩
  refine gO ?_
  (with_reducible refine condI.split (fun hg => ?_) (fun hg => ?_) <;> (try simp only [hg]) <;> (try simp only [seval, go_sem]))
  ·refine gO ?_
   have hi' : i < l.length := by simp at hg; omega
   obtain ⟨x, hx⟩ : ∃ x, l[i]? = some x := ⟨_, List.getElem?_eq_getElem hi'⟩
   obtain ⟨c1, ⟨v, rfl, hb⟩, hr1⟩ := he.at hr hx
   (refine ⟨⟨by omega, by omega, he.isAt hr (by decide) hi'⟩, ?_⟩; (try simp only [seval, go_sem]))
   (refine ldF.one _ (by first | exact .inl hr1 | exact hr1) ?_; (try simp only [seval, go_sem]))
   ((try with_reducible refine othM.toT ?_); refine oth_call rfl hok rfl rfl (hf x (List.mem_of_getElem? hx) v hb) ?_; rintro _ _ - ⟨rfl, rfl⟩; refine gO ?_)
   (with_reducible refine condI.split (fun hg => ?_) (fun hg => ?_) <;> (try simp only [hg]) <;> (try simp only [seval, go_sem]))
   ·refine gO ?_
    (first|refine fN ?_|exact fZ)
    simp [any_of hx hg]
   ·refine gO ?_
    refine ⟨i + 1, ⟨by omega, any_take hx ht hg⟩, by omega, ?_⟩
    exact lE
  ·refine gO ?_
   (first|refine fN ?_|exact fZ)
   have : i = l.length := by simp at hg; omega
   subst this
   simp at ht
   simpa using ht
theorem containsS {p : (List Int) → Bool} {fn : FuncId} {caps : List Value} {l : List (List Int)} {A : Option Addr} {c : Nat} {cs : List Value} {z : Zc} (he : Els sduRep z l cs) (hr : RdAt z A 0 cs) (hl : l.length ≤ 1000000000) (hok : callOk Tryz.prog fn = true)
  (hf : ∀ x ∈ l, ∀ v, By z (datS x) v → PSpec Tryz.prog fn ([v] ++ caps) z fun u z' => u = .bool (p x) ∧ z = z') :
  PSpec Tryz.prog 72 [.slice A l.length c, .func (.func fn) #[] caps.toArray] z fun v z' => v = .bool (l.any p) ∧ z = z' := by
 refine eP k72 ?_
 refine gO ?_
 refine tT ?_; refine callP (indexS he hr hl hok hf) rfl rfl ?_; rintro _ _ - ⟨⟨i, rfl, hi⟩, rfl⟩; refine gO ?_
 (first|refine fN ?_|exact fZ)
 simp [← hi]
theorem partsok1 (c : Cfg) (b : Nat) (p : Part) (v : Value) (z : Zc) (hr : RdAt z (some ⟨b, 0, none⟩) 0 [.int .i64 c.mode, .int .i64 c.win, .int .i64 c.mps, .int .i64 c.mtu, .int .i64 c.tri]) (hb : By z p.data v) (hl : p.data.length ≤ 1000000000) :
  PSpec Tryz.prog 110 ([vPart p v] ++ [.pointer (some ⟨b, 0, none⟩)]) z fun u z' => u = .bool (!(partOk p && decide ((p.data.length : Int) ≤ c.mps))) ∧ z = z' := by
 obtain ⟨A, k, rfl, hk, hB, hrb⟩ := hb.form
 refine eP k110 ?_
 (refine vsI.ptr ?_; refine gO ?_)
 refine tT ?_; refine callP (partok_i p A _ _ _ hl rfl) rfl rfl ?_; rintro _ _ - ⟨rfl, rfl⟩; refine gO ?_
 (with_reducible refine guardR.split (fun hg => ?_) (fun hg => ?_) <;> (try simp only [hg]) <;> simp only [seval, go_sem])
 ·refine gO ?_
  (first|refine fN ?_|exact fZ)
  simp_all
 ·refine gO ?_
  (refine ldF.one _ (by first | exact .inl (hr.cell 2 rfl) | exact (hr.cell 2 rfl)) ?_; (try simp only [seval, go_sem]))
  (first|refine fN ?_|exact fZ)
  simp [hg, ← decide_not, Int.not_le]
theorem partsok_i (c : Cfg) (l : List Part) (v : Value) (z : Zc) (h : Sl pRep z l v) (hl : l.length ≤ 1000000000) (hp : ∀ p ∈ l, p.data.length ≤ 1000000000) :
  PSpec Tryz.prog 70 [vCfg c, v] z fun u z' => u = .bool (partsOk c l) := by
 obtain ⟨A, k, cs, rfl, hk, he, hr⟩ := h
 refine eP k70 ?_
 (refine vsI.frz 0 rfl rfl rfl (fun b z1 hz1 hr1 => ?_)); simp only [seval, go_sem, Go.Proofs.YtllafcmkppmdgaaGreat.frz, subV, subC, subE, subL]; refine gO ?_
 ((try with_reducible refine othM.toT ?_); refine oth_makeFunc rfl ?_; refine gO ?_)
 refine tT ?_; refine callP (containsP (p := fun p => !(partOk p && decide ((p.data.length : Int) ≤ c.mps))) (caps := [.pointer (some ⟨b, 0, none⟩)]) (he.mono hz1) (hr.mono hz1) hl (by kernel_rfl) (fun x hx v hv => partsok1 c b x v z1 hr1 hv (hp x hx))) rfl rfl ?_; rintro _ _ - ⟨rfl, rfl⟩; refine gO ?_
 (first|refine fN ?_|exact fZ)
 simp [partsOk, List.all_eq_not_any_not]
theorem sdusok1 (b : List Int) (v : Value) (z : Zc) (hb : By z b v) (hl : b.length ≤ 1000000000) : PSpec Tryz.prog 73 ([v] ++ []) z fun u z' => u = .bool (!decide (b.length ≤ 24)) ∧ z = z' := by
 obtain ⟨A, k, rfl, hk, hB, hrb⟩ := hb.form
 refine eP k73 ?_
 (try simp only [seval, go_sem]); repeat' (first | (with_reducible refine vsI.id ?_; (try simp only [seval, go_sem])) | (with_reducible refine vcI_cond ?_; (try simp only [seval, go_sem])) | (with_reducible refine guardR.split (fun hg => ?_) (fun hg => ?_) <;> (try simp only [hg]) <;> simp only [seval, go_sem]) | (with_reducible refine condI.split (fun hg => ?_) (fun hg => ?_) <;> (try simp only [hg]) <;> (try simp only [seval, go_sem])) | (with_reducible refine callM.toT ?_))
 (first|refine fN ?_|exact fZ)
 simp [← decide_not]; omega
theorem sdusok_i (l : List (List Int)) (v : Value) (z : Zc) (h : Sl sduRep z l v) (hl : l.length ≤ 1000000000) (hp : ∀ p ∈ l, p.length ≤ 1000000000) :
  PSpec Tryz.prog 43 [v] z fun u z' => u = .bool (sdusOk l) ∧ z = z' := by
 obtain ⟨A, k, cs, rfl, hk, he, hr⟩ := h
 refine eP k43 ?_
 refine gO ?_
 (with_reducible refine guardR.split (fun hg => ?_) (fun hg => ?_) <;> (try simp only [hg]) <;> simp only [seval, go_sem])
 ·refine tT ?_; refine callP (containsS (p := fun b => !decide (b.length ≤ 24)) (caps := []) he hr hl (by kernel_rfl) (fun x hx v hv => sdusok1 x v z hv (hp x hx))) rfl rfl ?_; rintro _ _ - ⟨rfl, rfl⟩; refine gO ?_
  (first|refine fN ?_|exact fZ)
  simp at hg
  simp [sdusOk, List.all_eq_not_any_not]; omega
 ·refine gO ?_
  (first|refine fN ?_|exact fZ)
  simp at hg
  simp [sdusOk]; omega
end Go.Proofs.YtllafcmkppmdgaaGreat
