/- The engine, last part: append onto nothing, that gives a row of one's own. · The engine: what is behind a pointer that is handed in. · The engine: rows that grow, with their form. · Codes of functions, group Base. -/
import Derived.Test.YtpjaidjnamngaaaGreatR4
import Derived.Test.YtpjaidjnamngaaaGreatR3
import Derived.Test.YtpjaidjnamngaaaGreatProg
namespace Go.Proofs.YtpjaidjnamngaaaGreat
open Go.RowKit
set_option linter.unusedVariables false
set_option linter.unusedSimpArgs false
section
variable {P : Program} {s : St} {K : St → Prop}
theorem appM_emptyO (k : Nat) {t e sz : Nat} {x y : Operand} {d : Option Nat} (ht : AppTy P t e sz) (hk : look k s.L = none) (hx : (∃ A0, ev s.t x = .c (.v (.slice A0 0 0))) ∨ ∃ j o, ev s.t x = .c (.s j o 0 0))
    {A : Option Addr} {m c : Nat} {news : List Value} (hy : ev s.t y = .c (.v (.slice A m c))) (hr : RdAt s.z A 0 news) (hl : news.length = m * sz) (h1 : ∀ u ∈ news, u.oneCell' = true) (hb : m ≤ 1000000000) (hm : 0 < m)
    (hK : ∀ A c, m ≤ c → K ⟨stO s.t d (.c (.v (.slice A m c))), (k, .own (rowA e sz (.slice A m c) m news)) :: s.L, s.z, s.n⟩) : appM P t x y d s K := fun o ho hd C ρ a w Q h => by
  subst hd
  obtain ⟨A0, hxv⟩ : ∃ A0, a.eval x = .slice A0 0 0 := by
    have hxd := ev_den h.fr x
    rcases hx with ⟨A0, hx⟩ | ⟨j, o', hx⟩
    · rw [hx] at hxd; exact ⟨A0, hxd⟩
    · rw [hx] at hxd; obtain ⟨b, _, hb2⟩ := hxd; exact ⟨_, hb2⟩
  have hyv : a.eval y = .slice A m c := by have := ev_den h.fr y; rw [hy] at this; exact this
  have hr' := hr.rd h.mem
  obtain ⟨i, z0, i1, i2, i3, i4, i5⟩ := ht.inf
  have hne : news ≠ [] := by
    intro e'; subst e'; simp only [List.length_nil] at hl
    rcases Nat.mul_eq_zero.1 hl.symm with h' | h'
    · omega
    · have := ht.pos; omega
  obtain ⟨b, ob, rfl, hc⟩ := hr' hne
  obtain ⟨F, f1, f2⟩ := h.mem
  have hrun : ∃ v' w', (Builtin.append_ #[t, t] o.type #[a.eval x, a.eval y]).run P w = .ok v' w' ∧ Row w' e sz v' m news ∧ w.grownBy w' none ∧ ∀ g, v'.ownBlock = some g → w.heap.size ≤ g := by
    rw [hxv, hyv]
    cases A0 with
    | none =>
      obtain ⟨v', w', k1, k2, k3, _, k5⟩ := run_append_own_at (P := P) w w.heap.size t o.type e i z0 sz i.bytes ht.und i1 i2 i3 rfl i5 ht.pos (.slice none 0 0) 0 [] (World.ownsRow_nil w _ e sz) ⟨b, ob, none⟩ m c news hl (fun j u hu => by rw [add_at]; exact hc j u hu) h1 (by simp only [maxLen]; omega) (by have := Nat.mul_le_mul hb i4; rw [Nat.zero_add]; omega) (Nat.le_refl _)
      have k2' := Row.of_own k2
      rw [List.nil_append, Nat.zero_add] at k2'
      refine ⟨v', w', k1, k2', k3, fun g hg => ?_⟩
      rcases k5 with e' | e'
      · rw [e'] at hg; cases hg
      · rw [e'] at hg; injection hg with hg; omega
    | some a0 =>
      obtain ⟨v', w', k1, k2, k3⟩ := run_append_arg_grows (P := P) w t o.type e i z0 sz i.bytes ht.und i1 i2 i3 rfl i5 ht.pos a0 0 0 [] (by simp) (fun j u hu => by simp at hu) ⟨b, ob, none⟩ m c news hl (fun j u hu => by rw [add_at]; exact hc j u hu) (by omega) (by simp only [maxLen]; omega) (by have := Nat.mul_le_mul hb i4; rw [Nat.zero_add]; omega)
      have k2' := Row.of_own k2
      rw [List.nil_append, Nat.zero_add] at k2'
      refine ⟨v', w', k1, k2', k3, fun g hg => ?_⟩
      rcases k2.2 with ⟨e', _⟩ | ⟨g', cap, cur, e', hg', _⟩
      · rw [e'] at hg; cases hg
      · rw [e'] at hg; simp [Value.ownBlock] at hg; omega
  obtain ⟨v', w', hrun, r1, r2, r3⟩ := hrun
  have hW : WOk ⟨w, fun _ => False, s.z⟩ s.z (fun b => v'.ownBlock = some b) w' := by
    refine ⟨r2.os, r2.tape, r2.output, r2.size, Nat.le_trans f2.zsize r2.size, fun b hb => ?_, fun b hb hz => ?_, fun b hb hf => ?_, fun b hb => ?_, fun b hb => .inl hb, Zc.rfl' _⟩
    · exact (r2.block b (Nat.lt_of_lt_of_le hb.2 f2.zsize) (fun e => by cases e)).trans (f2.frz b hb)
    · have := r3 b hb; have := Nat.lt_of_lt_of_le hz.2 f2.zsize; omega
    · exact r2.block b hb (fun e => by cases e)
    · exact .inr (r3 b hb)
  obtain ⟨hS, hP⟩ := own_after (d := o.dst) (k := k) (sv := .c (.v v')) (v := v') (A := emp) (A' := rowA e sz v' m news) (L := s.L) (F1 := fun _ => False) (F2 := F) h f1 f2 (fun _ h => h) f1 (fun _ h => h.elim) (fun b => by simp)
    (fun _ _ _ h => h) (fun e cs => by rw [hk]; simp) ⟨r1, fun _ => Iff.rfl⟩ hW rfl
  obtain ⟨A', c', e1, e2, _⟩ := r1.rd
  subst e1
  exact wp_value (run_app ho hrun) ⟨_, ρ, hK A' c' e2, hS, hP⟩
theorem appM_zero {t e sz : Nat} {x y : Operand} {d : Option Nat} (ht : AppTy P t e sz) (hx : (∃ A0 n0 c0, n0 ≤ c0 ∧ ev s.t x = .c (.v (.slice A0 n0 c0))) ∨ ∃ j o, ev s.t x = .c (.s j o 0 0))
    {A : Option Addr} {c : Nat} (hy : ev s.t y = .c (.v (.slice A 0 c))) (hK : K ⟨stO s.t d (ev s.t x), s.L, s.z, s.n⟩) : appM P t x y d s K := fun o ho hd C ρ a w Q h => by
  subst hd
  obtain ⟨i, z0, i1, i2, i3, i4, i5⟩ := ht.inf
  have hyv : a.eval y = .slice A 0 c := by have := ev_den h.fr y; rw [hy] at this; exact this
  have hxd := ev_den h.fr x
  obtain ⟨A0, n0, c0, hn, hxv⟩ : ∃ A0 n0 c0, n0 ≤ c0 ∧ a.eval x = .slice A0 n0 c0 := by
    rcases hx with ⟨A0, n0, c0, hn, hx⟩ | ⟨j, o', hx⟩
    · rw [hx] at hxd; exact ⟨A0, n0, c0, hn, hxd⟩
    · rw [hx] at hxd; obtain ⟨b, _, hb2⟩ := hxd; exact ⟨_, _, _, Nat.le_refl _, hb2⟩
  refine wp_value (run_app ho (by rw [hxv, hyv]; exact run_append_zero t _ e i ht.und i1 w A0 A n0 c0 c hn)) ⟨_, ρ, hK, h.put o.dst ?_, Stp.same⟩
  rw [← hxv]
  exact hxd
end
/-! Functions that own, entered. -/
theorem spec_enter0 {P : Program} {f : FuncId} {fn : Func} {ic : IC} {fr : List FR} {pl : List FuncId} {args : List Value} {m : Nat} {z : Zc} {R : Value → Zc → Asrt → Prop}
    (hf : P.funcs[f]? = some fn) (hc : fn.body.bind (trC P pl) = some ic) (hr : fres P fn.results.toList = some fr) (hn : fn.ntmps = m)
    (hv : vcI P ic ⟨args.map ofV ++ List.replicate (m - args.length) unS, [], z, 0⟩ (postK fr R)) : Spec P f args z emp R :=
  spec_enter hf hc hr hn fun C ρ a w hs => ⟨_, ρ, hv, hs.df, hs.fr, hs.nm, hs.mem.drop⟩
theorem spec_enter1 {P : Program} {f : FuncId} {fn : Func} {ic : IC} {fr : List FR} {pl : List FuncId} {args : List Value} {m : Nat} {z : Zc} {A : Asrt} {R : Value → Zc → Asrt → Prop}
    (hf : P.funcs[f]? = some fn) (hc : fn.body.bind (trC P pl) = some ic) (hr : fres P fn.results.toList = some fr) (hn : fn.ntmps = m)
    (hv : vcI P ic ⟨args.map ofV ++ List.replicate (m - args.length) unS, [(1000, .own A)], z, 0⟩ (postK fr R)) : Spec P f args z A R :=
  spec_enter hf hc hr hn fun C ρ a w hs => ⟨_, ρ, hv, hs⟩
theorem spec_enterL {P : Program} {f : FuncId} {fn : Func} {ic : IC} {fr : List FR} {pl : List FuncId} {args : List Value} {m : Nat} {z : Zc} {As : List Asrt} {R : Value → Zc → Asrt → Prop} (ks : List Nat)
    (hf : P.funcs[f]? = some fn) (hc : fn.body.bind (trC P pl) = some ic) (hr : fres P fn.results.toList = some fr) (hn : fn.ntmps = m) (hl : ks.length = As.length)
    (hv : vcI P ic ⟨args.map ofV ++ List.replicate (m - args.length) unS, zipL ks As [], z, 0⟩ (postK fr R)) : Spec P f args z (starL As) R :=
  spec_enter hf hc hr hn fun C ρ a w hs => ⟨_, ρ, hv, (Tf.open' (s := ⟨args.map ofV ++ List.replicate (m - args.length) unS, [(1000, .own (starL As))], z, 0⟩) 1000 ks rfl hl (by simp [del, look])).sat hs⟩
theorem Spec.frz {P : Program} {f : FuncId} {args : List Value} {z : Zc} {e sz : Nat} {A0 : Asrt} {R : Value → Zc → Asrt → Prop} {R' : Value → Zc → Prop} (h : Spec P f args z A0 R)
    (hR : ∀ v z' A', z ≤ z' → R v z' A' → ∃ u n cs, A' = rowA e sz u n cs ∧ ∀ A c z'', u = .slice A n c → n ≤ c → z' ≤ z'' → RdAt z'' A 0 cs → R' v z'') : Spec P f args z A0 fun v z' A' => A' = emp ∧ R' v z' := fun w F hw hA => by
  refine (h w F hw hA).mono ?_
  rintro e' w' ⟨v, z', A', F', rfl, h2, h3, h4⟩
  obtain ⟨u, n, cs, rfl, hk⟩ := hR v z' A' h4.zle h2
  obtain ⟨A, c, z'', k1, k2, k3, k4, ⟨F'', k5, k6⟩⟩ := Mem.freezeRow (C := ⟨w, F, z⟩) (ρ := []) (z := z') (L := [(0, .own (rowA e sz u n cs))]) (w := w') (k := 0) ⟨F', ⟨F', fun _ => False, h3, fun _ h => h, fun _ _ h => h, fun b => by simp⟩, h4⟩ rfl
  exact ⟨v, z'', emp, fun _ => False, rfl, ⟨rfl, hk A c z'' k1 k2 k3 k4⟩, fun _ h => h, k6.less fun _ h => h.elim⟩
def ptrA (e b : Nat) (vs : List Value) : Asrt where
  holds w F := w.heap[b]? = some (.cells vs.toArray e (0, 0)) ∧ ∀ x, F x ↔ x = b
  loc := fun h k => ⟨(k b ((h.2 b).2 rfl)).trans h.1, h.2⟩
  dom := fun h hb => by rw [(h.2 _).1 hb]; exact lt_of_heap h.1
def unV (j b : Nat) : SV → SV
  | .c (.f (some ⟨b', 0, none⟩) o) => if b' = b then .c (.p j o) else .c (.f (some ⟨b', 0, none⟩) o)
  | x => x
theorem unV_den {ρ : Nm} {j b : Nat} (hb : ρ[j]? = some b) (x : SV) (u : Value) (h : x.den ρ u) : (unV j b x).den ρ u := by
  unfold unV
  split
  · rename_i b' o
    split
    · rename_i e
      subst e
      obtain ⟨b0, o', e1, rfl⟩ := h
      injection e1 with e1
      injection e1 with e1 e2
      subst e1
      subst e2
      exact ⟨_, hb, by rw [Nat.zero_add]⟩
    · exact h
  · exact h
def vals (vs : List Value) : List SC := vs.map .v
theorem vals_den {ρ : Nm} : ∀ (vs : List Value), DL (SC.den ρ) (vals vs) vs
  | [] => trivial
  | v :: vs => ⟨rfl, vals_den vs⟩
section
variable {P : Program} {s : St} {K : St → Prop} {d : Option Nat}
def giveSt (s : St) (k j m b e : Nat) (vs : List Value) : St := ⟨s.t.map (subV j b), (k, .own (ptrA e b vs)) :: (m, .link j b) :: subL j b (del j s.L), s.z, s.n⟩
theorem Sat.give {C : Ctx} {ρ : Nm} {a : Act} {w : World} (k j m : Nat) {e : Nat} {cs : List SC} {vs : List Value} (hk : look j s.L = some (.cells e cs)) (hv : allV cs = some vs) (hs : Sat C ρ s a w) :
    ∃ b, ρ[j]? = some b ∧ Sat C ρ (giveSt s k j m b e vs) a w := by
  obtain ⟨F, hh, hw⟩ := hs.mem
  obtain ⟨F1, F2, ⟨b, us, a1, a2, a3, a4⟩, k2, kd, kF⟩ := hh.pick hk
  have hus := allV_den hv a2
  subst hus
  exact ⟨b, a1, hs.df, hs.fr.map_left (subV_den a1), hs.nm, F, ⟨F1, F2, ⟨a3, a4⟩, ⟨fun _ => False, F2, ⟨a1, fun _ h => h⟩, subL_holds a1 k2, fun _ h => h.elim, fun x => by simp⟩, kd, kF⟩, hw⟩
theorem opT.give {o : Oper} (k j m : Nat) {e : Nat} {cs : List SC} {vs : List Value} (hk : look j s.L = some (.cells e cs)) (hv : allV cs = some vs) (h : ∀ b, opT P o (giveSt s k j m b e vs) K) : opT P o s K := fun C ρ a w Q hs => by
  obtain ⟨b, _, hs'⟩ := hs.give k j m hk hv
  exact h b C ρ a w Q hs'
theorem callT.give {f : FuncId} {args : List Operand} (k j m : Nat) {e : Nat} {cs : List SC} {vs : List Value} (hk : look j s.L = some (.cells e cs)) (hv : allV cs = some vs) (h : ∀ b, callT P f args d (giveSt s k j m b e vs) K) : callT P f args d s K := fun o h1 h2 => opT.give k j m hk hv fun b => h b o h1 h2
theorem FinV.give {fr : List FR} {R : Value → Zc → Asrt → Prop} (k j m l : Nat) {e b : Nat} {cs : List SC} {vs : List Value} (hk : look j s.L = some (.cells e cs)) (hv : allV cs = some vs) (hl : look l s.L = some (.link j b)) (h : FinV fr (giveSt s k j m b e vs) R) : FinV fr s R := fun C ρ a w hs => by
  obtain ⟨b', h1, hs'⟩ := hs.give k j m hk hv
  obtain ⟨F, hh, hw⟩ := hs.mem
  obtain ⟨F1, F2, ⟨h2, _⟩, _⟩ := hh.pick hl
  rw [h1] at h2
  injection h2 with h2
  subst h2
  exact h C ρ a w hs'
def takeSt (s : St) (k j b e : Nat) (vs : List Value) : St := ⟨s.t.map (unV j b), (j, .cells e (vals vs)) :: del k s.L, s.z, s.n⟩
theorem Tf.take (k j m : Nat) {e b : Nat} {vs : List Value} (hk : look k s.L = some (.own (ptrA e b vs))) (hm : look m s.L = some (.link j b)) (hj : look j (del k s.L) = none) {C : Ctx} {ρ : Nm} {a : Act} {w : World} (hs : Sat C ρ s a w) : Sat C ρ (takeSt s k j b e vs) a w := by
  obtain ⟨F, hh, hw⟩ := hs.mem
  obtain ⟨G1, G2, ⟨h2, _⟩, _⟩ := hh.pick hm
  obtain ⟨F1, F2, ⟨a3, a4⟩, k2, kd, kF⟩ := hh.pick hk
  exact ⟨hs.df, hs.fr.map_left (unV_den h2), hs.nm, F, ⟨F1, F2, ⟨b, vs, h2, vals_den vs, a3, a4⟩, k2, kd, kF⟩, hw⟩
theorem vsI.take {ic : IC} {K : Exit → St → Prop} (k j m : Nat) {e b : Nat} {vs : List Value} (hk : look k s.L = some (.own (ptrA e b vs))) (hm : look m s.L = some (.link j b)) (hj : look j (del k s.L) = none) (h : vsI P ic K (takeSt s k j b e vs)) : vsI P ic K s := fun C ρ a w hs => h C ρ a w (Tf.take k j m hk hm hj hs)
theorem FinV.take {fr : List FR} {R : Value → Zc → Asrt → Prop} (k j m : Nat) {e b : Nat} {vs : List Value} (hk : look k s.L = some (.own (ptrA e b vs))) (hm : look m s.L = some (.link j b)) (hj : look j (del k s.L) = none) (h : FinV fr (takeSt s k j b e vs) R) : FinV fr s R := fun C ρ a w hs => h C ρ a w (Tf.take k j m hk hm hj hs)
end
theorem spec_enterP {P : Program} {f : FuncId} {fn : Func} {ic : IC} {fr : List FR} {pl : List FuncId} {b e : Nat} {vs : List Value} {args : List Value} {m : Nat} {z : Zc} {As : List Asrt} {R : Value → Zc → Asrt → Prop} (ks : List Nat)
    (hf : P.funcs[f]? = some fn) (hc : fn.body.bind (trC P pl) = some ic) (hr : fres P fn.results.toList = some fr) (hn : fn.ntmps = m) (hl : ks.length = As.length)
    (hv : vcI P ic ⟨.c (.p 0 0) :: (args.map ofV ++ List.replicate (m - (args.length + 1)) unS), (0, .cells e (vals vs)) :: (2000, .link 0 b) :: zipL ks As [], z, 1⟩ (postK fr R)) : Spec P f (.pointer (some ⟨b, 0, none⟩) :: args) z (starL (ptrA e b vs :: As)) R :=
  spec_enter hf hc hr hn fun C ρ a w hs => by
    have hρ : ρ = [] := List.eq_nil_of_length_eq_zero hs.nm
    subst hρ
    refine ⟨_, [b], hv, hs.df, ?_, rfl, ?_⟩
    · have hfr := hs.fr
      generalize a.tmps.toList = ts at hfr
      cases ts with
      | nil => exact hfr.elim
      | cons t ts =>
        obtain ⟨h1, h2⟩ := hfr
        refine ⟨⟨b, rfl, h1⟩, ?_⟩
        exact DL.mono (fun _ _ => SV.den.ext (List.nil_prefix)) h2
    · obtain ⟨F, ⟨F1, F2, ⟨G1, G2, ⟨g1, g2⟩, g3, gd, gF⟩, hE, kd, kF⟩, hw⟩ := hs.mem
      have hop : Holds [] w (zipL ks As []) G2 := by
        have := Holds.open' (ρ := []) (w := w) (k := 1000) (ks := ks) (L := []) (As := As) (F := G2) hl ⟨G2, fun _ => False, g3, fun _ h => h, fun _ _ h => h, fun b => by simp⟩
        exact this
      refine ⟨F, ⟨G1, G2, ⟨b, vs, rfl, vals_den vs, g1, g2⟩, ⟨fun _ => False, G2, ⟨rfl, fun _ h => h⟩, hop.ext List.nil_prefix, fun _ h => h.elim, fun x => by simp⟩, gd, fun x => ?_⟩, hw⟩
      rw [kF x, gF x]
      have := hE x
      simp [this]
section
variable {P : Program} {s : St} {K : St → Prop}
theorem opM.sat {o : Oper} {K' : St → Prop} (h : opM P o s K') (hk : ∀ s', K' s' → ∀ C ρ a w, Sat C ρ s' a w → K s') : opM P o s K := fun C ρ a w Q hs =>
  Oper.wp_mono (fun a' w' ⟨s', ρ', h1, h2, h3⟩ => ⟨s', ρ', hk s' h1 _ _ _ _ h2, h2, h3⟩) (h C ρ a w Q hs)
theorem Sat.formR {C : Ctx} {ρ : Nm} {a : Act} {w : World} (k : Nat) {e sz n : Nat} {v : Value} {cs : List Value} (hk : look k s.L = some (.own (rowA e sz v n cs))) (hs : Sat C ρ s a w) : ∃ A c, v = .slice A n c ∧ n ≤ c ∧ (0 < n → IsAt A) := by
  obtain ⟨F, hh, hw⟩ := hs.mem
  obtain ⟨F1, F2, ⟨hrow, _⟩, _⟩ := hh.pick hk
  rcases hrow.2 with ⟨e1, e0⟩ | ⟨g, o, cap, cur, e1, _, e2, _⟩
  · subst e0; exact ⟨none, 0, e1, Nat.le_refl _, fun h => absurd h (Nat.lt_irrefl _)⟩
  · exact ⟨_, _, e1, e2, fun _ => ⟨g, o, rfl⟩⟩
theorem appM_rowF (k : Nat) {t e sz : Nat} {x y : Operand} {d : Option Nat} (ht : AppTy P t e sz) {v : Value} {n : Nat} {cs : List Value} (hk : look k s.L = some (.own (rowA e sz v n cs))) (hk' : look k (del k s.L) = none) (hx : ev s.t x = .c (.v v))
    {A : Option Addr} {m c : Nat} {news : List Value} (hy : ev s.t y = .c (.v (.slice A m c))) (hr : RdAt s.z A 0 news) (hl : news.length = m * sz) (h1 : ∀ u ∈ news, u.oneCell' = true) (hb : n + m ≤ 1000000000)
    (hK : ∀ A' c', n + m ≤ c' → K ⟨stO s.t d (.c (.v (.slice A' (n + m) c'))), (k, .own (rowA e sz (.slice A' (n + m) c') (n + m) (cs ++ news))) :: del k s.L, s.z, s.n⟩) : appM P t x y d s K := fun o ho hd =>
  opM.sat (appM_row (K := fun s' => ∃ v', s' = ⟨stO s.t d (.c (.v v')), (k, .own (rowA e sz v' (n + m) (cs ++ news))) :: del k s.L, s.z, s.n⟩) k ht hk hk' hx hy hr hl h1 hb (fun v' => ⟨v', rfl⟩) o ho hd) fun s' ⟨v', e'⟩ C ρ a w hs => by
    subst e'
    obtain ⟨A', c', e1, e2, _⟩ := hs.formR k (by show (if k = k then _ else _) = _; rw [if_pos rfl])
    subst e1
    exact hK A' c' e2
theorem appM_newF (k : Nat) {t e sz : Nat} {x y : Operand} {d : Option Nat} (ht : AppTy P t e sz) {v : Value} {n : Nat} {cs : List Value} (hk : look k s.L = some (.own (rowA e sz v n cs))) (hk' : look k (del k s.L) = none) (hx : ev s.t x = .c (.v v))
    {j m c e' : Nat} {cj : List SC} {news : List Value} (hy : ev s.t y = .c (.s j 0 m c)) (hj : look j s.L = some (.cells e' cj)) (hcj : allV cj = some news) (hl : news.length = m * sz) (h1 : ∀ u ∈ news, u.oneCell' = true) (hb : n + m ≤ 1000000000)
    (hK : ∀ A' c', n + m ≤ c' → IsAt A' ∨ m = 0 → K ⟨stO s.t d (.c (.v (.slice A' (n + m) c'))), (k, .own (rowA e sz (.slice A' (n + m) c') (n + m) (cs ++ news))) :: del k s.L, s.z, s.n⟩) : appM P t x y d s K := fun o ho hd =>
  opM.sat (appM_new (K := fun s' => ∃ v', s' = ⟨stO s.t d (.c (.v v')), (k, .own (rowA e sz v' (n + m) (cs ++ news))) :: del k s.L, s.z, s.n⟩) k ht hk hk' hx hy hj hcj hl h1 hb (fun v' => ⟨v', rfl⟩) o ho hd) fun s' ⟨v', e'⟩ C ρ a w hs => by
    subst e'
    obtain ⟨A', c', e1, e2, e3⟩ := hs.formR k (by show (if k = k then _ else _) = _; rw [if_pos rfl])
    subst e1
    refine hK A' c' e2 ?_
    rcases Nat.eq_zero_or_pos m with h0 | h0
    · exact .inr h0
    · exact .inl (e3 (by omega))
end
set_option maxRecDepth 100000
set_option maxHeartbeats 4000000
def ic37 : IC := (.seq (.reg [] (xt (.mv (.const (.slice none 0 0))) 2 .done)) (.seq (.reg [] (xt (.mv (xr 0)) 3 (xt (.call 67 [xr 3]) 4 (xt (.call 66 [xr 4]) 5 (xt (.mv (xr 5)) 2 .done))))) .ret))
theorem ic37_ok : Tryz.f37.body.bind (trC Tryz.prog []) = some ic37 := by kernel_rfl
def fr37 : List FR := [(FR.t 2)]
theorem fr37_ok : fres Tryz.prog Tryz.f37.results.toList = some fr37 := by kernel_rfl
def ic34 : IC := (.seq (.reg [] (xt (.mv (.const (.slice none 0 0))) 2 .done)) (.seq (.reg [] (xt (.mv (xr 0)) 3 (xt (.call 65 [xr 3]) 4 (xt (.call 64 [xr 4]) 5 (xt (.mv (xr 5)) 2 .done))))) .ret))
theorem ic34_ok : Tryz.f34.body.bind (trC Tryz.prog []) = some ic34 := by kernel_rfl
def fr34 : List FR := [(FR.t 2)]
theorem fr34_ok : fres Tryz.prog Tryz.f34.results.toList = some fr34 := by kernel_rfl
def ic67 : IC := (.seq (.reg [] (xt (.mv (.const (.slice none 0 0))) 2 .done)) (.seq (.seq (.reg [] (xt (.mv (xr 0)) 3 (xt (.isn false (xr 3)) 4 .done))) (.cond (xr 4) (.seq (.reg [] (xt (.mv (.const (.slice none 0 0))) 2 .done)) .ret) .skip)) (.seq (.reg [] (xt (.bsl 5 1 0 [(.int .u8 0)] []) 5 (xt (.mv (xr 0)) 6 (xt (.app 22 (xr 5) (xr 6)) 7 (xt (.mv (xr 7)) 2 .done))))) .ret)))
theorem ic67_ok : Tryz.f67.body.bind (trC Tryz.prog []) = some ic67 := by kernel_rfl
def fr67 : List FR := [(FR.t 2)]
theorem fr67_ok : fres Tryz.prog Tryz.f67.results.toList = some fr67 := by kernel_rfl
def ic66 : IC := (.seq (.reg [] (xt (.mv (.const (.slice none 0 0))) 2 .done)) (.seq (.reg [] (xt (.mv (xr 0)) 3 (xt (.mv (xr 0)) 4 (xt (.len (xr 4)) 5 (xt (.mv (xr 0)) 6 (xt (.len (xr 6)) 7 (xt (.sl3 (xr 3) none (xr 5) (xr 7) 1) 8 (xt (.mv (xr 8)) 2 .done)))))))) .ret))
theorem ic66_ok : Tryz.f66.body.bind (trC Tryz.prog []) = some ic66 := by kernel_rfl
def fr66 : List FR := [(FR.t 2)]
theorem fr66_ok : fres Tryz.prog Tryz.f66.results.toList = some fr66 := by kernel_rfl
def ic65 : IC := (.seq (.reg [] (xt (.mv (.const (.slice none 0 0))) 2 .done)) (.seq (.seq (.reg [] (xt (.mv (xr 0)) 3 (xt (.isn false (xr 3)) 4 .done))) (.cond (xr 4) (.seq (.reg [] (xt (.mv (.const (.slice none 0 0))) 2 .done)) .ret) .skip)) (.seq (.reg [] (xt (.bsl 88 3 0 [(.int .i64 0), (.int .i64 0), (.slice none 0 0)] []) 5 (xt (.mv (xr 0)) 6 (xt (.app 28 (xr 5) (xr 6)) 7 (xt (.mv (xr 7)) 2 .done))))) .ret)))
theorem ic65_ok : Tryz.f65.body.bind (trC Tryz.prog []) = some ic65 := by kernel_rfl
def fr65 : List FR := [(FR.t 2)]
theorem fr65_ok : fres Tryz.prog Tryz.f65.results.toList = some fr65 := by kernel_rfl
def ic64 : IC := (.seq (.reg [] (xt (.mv (.const (.slice none 0 0))) 2 .done)) (.seq (.reg [] (xt (.mv (xr 0)) 3 (xt (.mv (xr 0)) 4 (xt (.len (xr 4)) 5 (xt (.mv (xr 0)) 6 (xt (.len (xr 6)) 7 (xt (.sl3 (xr 3) none (xr 5) (xr 7) 3) 8 (xt (.mv (xr 8)) 2 .done)))))))) .ret))
theorem ic64_ok : Tryz.f64.body.bind (trC Tryz.prog []) = some ic64 := by kernel_rfl
def fr64 : List FR := [(FR.t 2)]
theorem fr64_ok : fres Tryz.prog Tryz.f64.results.toList = some fr64 := by kernel_rfl
def ic36 : IC := (.seq (.reg [] (xt (.mv (.const (.bool false))) 6 .done)) (.seq (.reg [] (xt (.mv (xr 0)) 7 (xt (.mv (xr 1)) 8 (xt (.bin .geq (xr 7) (xr 8)) 9 (xt (.mv (xr 9)) 10 (.op .t (.mv (xr 0)) (some 11) (some (10, true)) (.op .t (.mv (xr 2)) (some 12) (some (10, true)) (.op .t (.bin .leq (xr 11) (xr 12)) (some 13) (some (10, true)) (xt (.pick (xr 10) (xr 13) (.const (.bool false))) 14 (xt (.mv (xr 14)) 6 .done)))))))))) .ret))
theorem ic36_ok : Tryz.f36.body.bind (trC Tryz.prog []) = some ic36 := by kernel_rfl
def fr36 : List FR := [(FR.t 6)]
theorem fr36_ok : fres Tryz.prog Tryz.f36.results.toList = some fr36 := by kernel_rfl
def ic85 : IC := (.seq (.reg [] (xt (.mv (.const (.bool false))) 6 .done)) (.seq (.reg [] (xt (.mv (xr 0)) 7 (xt (.mv (xr 1)) 8 (xt (.bin .geq (xr 7) (xr 8)) 9 (xt (.mv (xr 9)) 10 (.op .t (.mv (xr 0)) (some 11) (some (10, true)) (.op .t (.mv (xr 2)) (some 12) (some (10, true)) (.op .t (.bin .leq (xr 11) (xr 12)) (some 13) (some (10, true)) (xt (.pick (xr 10) (xr 13) (.const (.bool false))) 14 (xt (.mv (xr 14)) 6 .done)))))))))) .ret))
theorem ic85_ok : Tryz.f85.body.bind (trC Tryz.prog []) = some ic85 := by kernel_rfl
def fr85 : List FR := [(FR.t 6)]
theorem fr85_ok : fres Tryz.prog Tryz.f85.results.toList = some fr85 := by kernel_rfl
def ic45 : IC := (.seq (.reg [] (xt (.mv (.const (.bool false))) 2 .done)) (.seq (.reg [] (xt (.mv (xr 0)) 3 (xt (.call 36 [xr 3, (.const (.int .i64 0)), (.const (.int .i64 7))]) 4 (xt (.mv (xr 4)) 2 .done)))) .ret))
theorem ic45_ok : Tryz.f45.body.bind (trC Tryz.prog []) = some ic45 := by kernel_rfl
def fr45 : List FR := [(FR.t 2)]
theorem fr45_ok : fres Tryz.prog Tryz.f45.results.toList = some fr45 := by kernel_rfl
def ic38 : IC := (.seq (.reg [] (xt (.box 24 (xr 0)) 1 (xt (.mv (.const (.bool false))) 2 .done))) (.seq (.reg [] (xt (.fad (xr 1) 0) 3 (xt (.ld (xr 3) 1 false) 4 (xt (.call 36 [xr 4, (.const (.int .i64 1)), (.const (.int .i64 2))]) 5 (xt (.mv (xr 5)) 6 (.op .t (.fad (xr 1) 1) (some 7) (some (6, true)) (.op .t (.ld (xr 7) 1 false) (some 8) (some (6, true)) (.op .t (.call 36 [xr 8, (.const (.int .i64 1)), (.const (.int .i64 4))]) (some 9) (some (6, true)) (xt (.pick (xr 6) (xr 9) (.const (.bool false))) 10 (xt (.mv (xr 10)) 11 (.op .t (.fad (xr 1) 2) (some 12) (some (11, true)) (.op .t (.ld (xr 12) 1 false) (some 13) (some (11, true)) (.op .t (.call 36 [xr 13, (.const (.int .i64 1)), (.const (.int .i64 8))]) (some 14) (some (11, true)) (xt (.pick (xr 11) (xr 14) (.const (.bool false))) 15 (xt (.mv (xr 15)) 16 (.op .t (.fad (xr 1) 3) (some 17) (some (16, true)) (.op .t (.ld (xr 17) 1 false) (some 18) (some (16, true)) (.op .t (.call 36 [xr 18, (.const (.int .i64 1)), (.const (.int .i64 24))]) (some 19) (some (16, true)) (xt (.pick (xr 16) (xr 19) (.const (.bool false))) 20 (xt (.mv (xr 20)) 21 (.op .t (.fad (xr 1) 4) (some 22) (some (21, true)) (.op .t (.ld (xr 22) 1 false) (some 23) (some (21, true)) (.op .t (.call 36 [xr 23, (.const (.int .i64 1)), (.const (.int .i64 5))]) (some 24) (some (21, true)) (xt (.pick (xr 21) (xr 24) (.const (.bool false))) 25 (xt (.mv (xr 25)) 2 .done))))))))))))))))))))))))) .ret))
theorem ic38_ok : Tryz.f38.body.bind (trC Tryz.prog []) = some ic38 := by kernel_rfl
def fr38 : List FR := [(FR.t 2)]
theorem fr38_ok : fres Tryz.prog Tryz.f38.results.toList = some fr38 := by kernel_rfl
def ic81 : IC := (.seq (.reg [] (xt (.box 24 (xr 0)) 1 (xt (.mv (.const (.bool false))) 2 .done))) (.seq (.reg [] (xt (.fad (xr 1) 0) 3 (xt (.ld (xr 3) 1 false) 4 (xt (.call 85 [xr 4, (.const (.int .i64 1)), (.const (.int .i64 2))]) 5 (xt (.mv (xr 5)) 6 (.op .t (.fad (xr 1) 1) (some 7) (some (6, true)) (.op .t (.ld (xr 7) 1 false) (some 8) (some (6, true)) (.op .t (.call 85 [xr 8, (.const (.int .i64 1)), (.const (.int .i64 4))]) (some 9) (some (6, true)) (xt (.pick (xr 6) (xr 9) (.const (.bool false))) 10 (xt (.mv (xr 10)) 11 (.op .t (.fad (xr 1) 2) (some 12) (some (11, true)) (.op .t (.ld (xr 12) 1 false) (some 13) (some (11, true)) (.op .t (.call 85 [xr 13, (.const (.int .i64 1)), (.const (.int .i64 8))]) (some 14) (some (11, true)) (xt (.pick (xr 11) (xr 14) (.const (.bool false))) 15 (xt (.mv (xr 15)) 16 (.op .t (.fad (xr 1) 3) (some 17) (some (16, true)) (.op .t (.ld (xr 17) 1 false) (some 18) (some (16, true)) (.op .t (.call 85 [xr 18, (.const (.int .i64 1)), (.const (.int .i64 24))]) (some 19) (some (16, true)) (xt (.pick (xr 16) (xr 19) (.const (.bool false))) 20 (xt (.mv (xr 20)) 21 (.op .t (.fad (xr 1) 4) (some 22) (some (21, true)) (.op .t (.ld (xr 22) 1 false) (some 23) (some (21, true)) (.op .t (.call 85 [xr 23, (.const (.int .i64 1)), (.const (.int .i64 5))]) (some 24) (some (21, true)) (xt (.pick (xr 21) (xr 24) (.const (.bool false))) 25 (xt (.mv (xr 25)) 2 .done))))))))))))))))))))))))) .ret))
theorem ic81_ok : Tryz.f81.body.bind (trC Tryz.prog []) = some ic81 := by kernel_rfl
def fr81 : List FR := [(FR.t 2)]
theorem fr81_ok : fres Tryz.prog Tryz.f81.results.toList = some fr81 := by kernel_rfl
def ic49 : IC := (.seq (.reg [] (xt (.mv (.const (.int .i64 0))) 4 .done)) (.seq (.reg [] (xt (.mv (xr 1)) 5 (xt (.mv (xr 0)) 6 (xt (.bin .sub (xr 5) (xr 6)) 7 (xt (.bin .add (xr 7) (.const (.int .i64 8))) 8 (xt (.bin .rem (xr 8) (.const (.int .i64 8))) 9 (xt (.mv (xr 9)) 4 .done))))))) .ret))
theorem ic49_ok : Tryz.f49.body.bind (trC Tryz.prog []) = some ic49 := by kernel_rfl
def fr49 : List FR := [(FR.t 4)]
theorem fr49_ok : fres Tryz.prog Tryz.f49.results.toList = some fr49 := by kernel_rfl
def ic52 : IC := (.seq (.reg [] (xt (.mv (.const (.int .i64 0))) 2 .done)) (.seq (.seq (.reg [] (xt (.mv (xr 0)) 3 (xt (.bin .lss (xr 3) (.const (.int .i64 0))) 4 .done))) (.cond (xr 4) (.seq (.reg [] (xt (.mv (.const (.int .i64 (-1)))) 2 .done)) .ret) .skip)) (.seq (.reg [] (xt (.mv (xr 0)) 5 (xt (.bin .rem (xr 5) (.const (.int .i64 8))) 6 (xt (.mv (xr 6)) 2 .done)))) .ret)))
theorem ic52_ok : Tryz.f52.body.bind (trC Tryz.prog []) = some ic52 := by kernel_rfl
def fr52 : List FR := [(FR.t 2)]
theorem fr52_ok : fres Tryz.prog Tryz.f52.results.toList = some fr52 := by kernel_rfl
def ic147 : IC := (.seq (.reg [] (xt (.mv (.const (.int .i64 0))) 2 .done)) (.seq (.seq (.reg [] (xt (.mv (xr 0)) 3 (xt (.bin .lss (xr 3) (.const (.int .i64 0))) 4 .done))) (.cond (xr 4) (.seq (.reg [] (xt (.mv (.const (.int .i64 (-1)))) 2 .done)) .ret) .skip)) (.seq (.reg [] (xt (.mv (xr 0)) 5 (xt (.bin .rem (xr 5) (.const (.int .i64 8))) 6 (xt (.mv (xr 6)) 2 .done)))) .ret)))
theorem ic147_ok : Tryz.f147.body.bind (trC Tryz.prog []) = some ic147 := by kernel_rfl
def fr147 : List FR := [(FR.t 2)]
theorem fr147_ok : fres Tryz.prog Tryz.f147.results.toList = some fr147 := by kernel_rfl
def ic74 : IC := (.seq (.reg [] (xt (.mv (.const (.int .i64 0))) 2 .done)) (.seq (.reg [] (xt (.mv (xr 0)) 3 (xt (.bin .add (xr 3) (.const (.int .i64 1))) 4 (xt (.bin .rem (xr 4) (.const (.int .i64 8))) 5 (xt (.mv (xr 5)) 2 .done))))) .ret))
theorem ic74_ok : Tryz.f74.body.bind (trC Tryz.prog []) = some ic74 := by kernel_rfl
def fr74 : List FR := [(FR.t 2)]
theorem fr74_ok : fres Tryz.prog Tryz.f74.results.toList = some fr74 := by kernel_rfl
def ic134 : IC := (.seq (.reg [] (xt (.mv (.const (.int .i64 0))) 2 .done)) (.seq (.reg [] (xt (.mv (xr 0)) 3 (xt (.bin .add (xr 3) (.const (.int .i64 1))) 4 (xt (.bin .rem (xr 4) (.const (.int .i64 8))) 5 (xt (.mv (xr 5)) 2 .done))))) .ret))
theorem ic134_ok : Tryz.f134.body.bind (trC Tryz.prog []) = some ic134 := by kernel_rfl
def fr134 : List FR := [(FR.t 2)]
theorem fr134_ok : fres Tryz.prog Tryz.f134.results.toList = some fr134 := by kernel_rfl
def ic159 : IC := (.seq (.reg [] (xt (.mv (.const (.int .i64 0))) 4 .done)) (.seq (.seq (.reg [] (xt (.mv (xr 0)) 5 (xt (.call 85 [xr 5, (.const (.int .i64 0)), (.const (.int .i64 7))]) 6 (xt (.not (xr 6)) 7 (xt (.mv (xr 7)) 8 (.op .t (.mv (xr 1)) (some 9) (some (8, false)) (.op .t (.call 85 [xr 9, (.const (.int .i64 0)), (.const (.int .i64 7))]) (some 10) (some (8, false)) (.op .t (.not (xr 10)) (some 11) (some (8, false)) (xt (.pick (xr 8) (.const (.bool true)) (xr 11)) 12 .done))))))))) (.cond (xr 12) (.seq (.reg [] (xt (.mv (.const (.int .i64 (-1)))) 4 .done)) .ret) .skip)) (.seq (.reg [] (xt (.mv (xr 1)) 13 (xt (.mv (xr 0)) 14 (xt (.bin .sub (xr 13) (xr 14)) 15 (xt (.bin .add (xr 15) (.const (.int .i64 8))) 16 (xt (.bin .rem (xr 16) (.const (.int .i64 8))) 17 (xt (.mv (xr 17)) 4 .done))))))) .ret)))
theorem ic159_ok : Tryz.f159.body.bind (trC Tryz.prog []) = some ic159 := by kernel_rfl
def fr159 : List FR := [(FR.t 4)]
theorem fr159_ok : fres Tryz.prog Tryz.f159.results.toList = some fr159 := by kernel_rfl
def ic106 : IC := (.seq (.reg [] (xt (.mv (.const (.int .i64 0))) 2 .done)) (.seq (.seq (.reg [] (xt (.mv (xr 0)) 3 .done)) (.cond (xr 3) (.seq (.reg [] (xt (.mv (.const (.int .i64 1))) 2 .done)) .ret) .skip)) (.seq (.reg [] (xt (.mv (.const (.int .i64 0))) 2 .done)) .ret)))
theorem ic106_ok : Tryz.f106.body.bind (trC Tryz.prog []) = some ic106 := by kernel_rfl
def fr106 : List FR := [(FR.t 2)]
theorem fr106_ok : fres Tryz.prog Tryz.f106.results.toList = some fr106 := by kernel_rfl
def ic51 : IC := (.seq (.reg [] (xt (.mv (.const (.int .i64 0))) 2 .done)) (.seq (.seq (.reg [] (xt (.mv (xr 0)) 3 .done)) (.cond (xr 3) (.seq (.reg [] (xt (.mv (.const (.int .i64 2))) 2 .done)) .ret) .skip)) (.seq (.reg [] (xt (.mv (.const (.int .i64 0))) 2 .done)) .ret)))
theorem ic51_ok : Tryz.f51.body.bind (trC Tryz.prog []) = some ic51 := by kernel_rfl
def fr51 : List FR := [(FR.t 2)]
theorem fr51_ok : fres Tryz.prog Tryz.f51.results.toList = some fr51 := by kernel_rfl
def ic68 : IC := (.seq (.reg [] (xt (.mv (.const (.bool false))) 6 .done)) (.seq (.reg [] (xt (.mv (xr 2)) 8 (xt (.len (xr 8)) 9 (xt (.mv (xr 9)) 7 .done)))) (.seq (.seq (.reg [] (xt (.mv (xr 0)) 10 .done)) (.block 0 (.seq (.reg [] (xt (.bin .eql (xr 10) (.const (.int .i64 0))) 12 (xt (.mv (xr 12)) 11 .done))) (.cond (xr 11) (.seq (.reg [] (xt (.mv (xr 7)) 13 (xt (.bin .leq (xr 13) (.const (.int .i64 8))) 14 (xt (.mv (xr 14)) 15 (.op .t (.mv (xr 1)) (some 16) (some (15, true)) (.op .t (.mv (xr 7)) (some 17) (some (15, true)) (.op .t (.bin .eql (xr 16) (xr 17)) (some 18) (some (15, true)) (xt (.pick (xr 15) (xr 18) (.const (.bool false))) 19 (xt (.mv (xr 19)) 6 .done))))))))) .ret) (.seq (.reg [] (xt (.bin .eql (xr 10) (.const (.int .i64 1))) 21 (xt (.mv (xr 21)) 20 .done))) (.cond (xr 20) (.seq (.reg [] (xt (.mv (xr 7)) 22 (xt (.call 36 [xr 22, (.const (.int .i64 1)), (.const (.int .i64 8))]) 23 (xt (.mv (xr 23)) 24 (.op .t (.mv (xr 1)) (some 25) (some (24, true)) (.op .t (.mv (xr 7)) (some 26) (some (24, true)) (.op .t (.bin .add (xr 26) (.const (.int .i64 1))) (some 27) (some (24, true)) (.op .t (.call 36 [xr 25, xr 27, (.const (.int .i64 24))]) (some 28) (some (24, true)) (xt (.pick (xr 24) (xr 28) (.const (.bool false))) 29 (xt (.mv (xr 29)) 6 .done)))))))))) .ret) (.seq (.seq (.reg [] (xt (.bin .eql (xr 10) (.const (.int .i64 2))) 31 (xt (.mv (xr 31)) 30 .done))) (.cond (xr 30) .skip (.reg [] (xt (.bin .eql (xr 10) (.const (.int .i64 3))) 32 (xt (.mv (xr 32)) 30 .done))))) (.cond (xr 30) (.seq (.reg [] (xt (.mv (xr 7)) 33 (xt (.call 36 [xr 33, (.const (.int .i64 1)), (.const (.int .i64 8))]) 34 (xt (.mv (xr 34)) 35 (.op .t (.mv (xr 1)) (some 36) (some (35, true)) (.op .t (.bin .eql (xr 36) (.const (.int .i64 0))) (some 37) (some (35, true)) (xt (.pick (xr 35) (xr 37) (.const (.bool false))) 38 (xt (.mv (xr 38)) 6 .done)))))))) .ret) .skip)))))))) (.seq (.reg [] (xt (.mv (.const (.bool false))) 6 .done)) .ret))))
theorem ic68_ok : Tryz.f68.body.bind (trC Tryz.prog []) = some ic68 := by kernel_rfl
def fr68 : List FR := [(FR.t 6)]
theorem fr68_ok : fres Tryz.prog Tryz.f68.results.toList = some fr68 := by kernel_rfl
def ic73 : IC := (.seq (.reg [] (xt (.box 88 (xr 0)) 1 (xt (.mv (.const (.bool false))) 2 .done))) (.seq (.reg [] (xt (.fad (xr 1) 0) 3 (xt (.ld (xr 3) 1 false) 4 (xt (.fad (xr 1) 1) 5 (xt (.ld (xr 5) 1 false) 6 (xt (.fad (xr 1) 2) 7 (xt (.ld (xr 7) 1 false) 8 (xt (.call 68 [xr 4, xr 6, xr 8]) 9 (xt (.mv (xr 9)) 2 .done))))))))) .ret))
theorem ic73_ok : Tryz.f73.body.bind (trC Tryz.prog []) = some ic73 := by kernel_rfl
def fr73 : List FR := [(FR.t 2)]
theorem fr73_ok : fres Tryz.prog Tryz.f73.results.toList = some fr73 := by kernel_rfl
def ic130 : IC := (.seq (.reg [] (xt (.box 41 (xr 0)) 1 (xt (.mv (.const (.bool false))) 2 .done))) (.seq (.seq (.reg [] (xt (.fad (xr 1) 6) 3 (xt (.ld (xr 3) 1 false) 4 (xt (.call 85 [xr 4, (.const (.int .i64 0)), (.const (.int .i64 3))]) 5 (xt (.not (xr 5)) 6 (xt (.mv (xr 6)) 7 (.op .t (.fad (xr 1) 8) (some 8) (some (7, false)) (.op .t (.ld (xr 8) 1 false) (some 9) (some (7, false)) (.op .t (.len (xr 9)) (some 10) (some (7, false)) (.op .t (.bin .eql (xr 10) (.const (.int .i64 0))) (some 11) (some (7, false)) (.op .t (.mv (xr 11)) (some 12) (some (7, false)) (.op .t (.fad (xr 1) 7) (some 13) (some (12, true)) (.op .t (.ld (xr 13) 1 false) (some 14) (some (12, true)) (.op .t (.bin .neq (xr 14) (.const (.int .i64 0))) (some 15) (some (12, true)) (.op .t (.pick (xr 12) (xr 15) (.const (.bool false))) (some 16) (some (7, false)) (xt (.pick (xr 7) (.const (.bool true)) (xr 16)) 17 (xt (.mv (xr 17)) 18 (.op .t (.fad (xr 1) 8) (some 19) (some (18, false)) (.op .t (.ld (xr 19) 1 false) (some 20) (some (18, false)) (.op .t (.len (xr 20)) (some 21) (some (18, false)) (.op .t (.bin .gtr (xr 21) (.const (.int .i64 8))) (some 22) (some (18, false)) (xt (.pick (xr 18) (.const (.bool true)) (xr 22)) 23 .done)))))))))))))))))))))) (.cond (xr 23) (.seq (.reg [] (xt (.mv (.const (.bool false))) 2 .done)) .ret) .skip)) (.seq (.seq (.reg [] (xt (.fad (xr 1) 6) 24 (xt (.ld (xr 24) 1 false) 25 .done))) (.block 0 (.seq (.reg [] (xt (.bin .eql (xr 25) (.const (.int .i64 0))) 27 (xt (.mv (xr 27)) 26 .done))) (.cond (xr 26) (.seq (.reg [] (xt (.fad (xr 1) 7) 28 (xt (.ld (xr 28) 1 false) 29 (xt (.fad (xr 1) 8) 30 (xt (.ld (xr 30) 1 false) 31 (xt (.len (xr 31)) 32 (xt (.bin .eql (xr 29) (xr 32)) 33 (xt (.mv (xr 33)) 2 .done)))))))) .ret) (.seq (.reg [] (xt (.bin .eql (xr 25) (.const (.int .i64 1))) 35 (xt (.mv (xr 35)) 34 .done))) (.cond (xr 34) (.seq (.reg [] (xt (.fad (xr 1) 7) 36 (xt (.ld (xr 36) 1 false) 37 (xt (.fad (xr 1) 8) 38 (xt (.ld (xr 38) 1 false) 39 (xt (.len (xr 39)) 40 (xt (.bin .add (xr 40) (.const (.int .i64 1))) 41 (xt (.call 85 [xr 37, xr 41, (.const (.int .i64 24))]) 42 (xt (.mv (xr 42)) 43 (.op .t (.fad (xr 1) 8) (some 44) (some (43, true)) (.op .t (.ld (xr 44) 1 false) (some 45) (some (43, true)) (.op .t (.len (xr 45)) (some 46) (some (43, true)) (.op .t (.bin .gtr (xr 46) (.const (.int .i64 0))) (some 47) (some (43, true)) (xt (.pick (xr 43) (xr 47) (.const (.bool false))) 48 (xt (.mv (xr 48)) 2 .done))))))))))))))) .ret) .skip)))))) (.seq (.reg [] (xt (.fad (xr 1) 7) 49 (xt (.ld (xr 49) 1 false) 50 (xt (.bin .eql (xr 50) (.const (.int .i64 0))) 51 (xt (.mv (xr 51)) 52 (.op .t (.fad (xr 1) 8) (some 53) (some (52, true)) (.op .t (.ld (xr 53) 1 false) (some 54) (some (52, true)) (.op .t (.len (xr 54)) (some 55) (some (52, true)) (.op .t (.bin .gtr (xr 55) (.const (.int .i64 0))) (some 56) (some (52, true)) (xt (.pick (xr 52) (xr 56) (.const (.bool false))) 57 (xt (.mv (xr 57)) 2 .done))))))))))) .ret))))
theorem ic130_ok : Tryz.f130.body.bind (trC Tryz.prog []) = some ic130 := by kernel_rfl
def fr130 : List FR := [(FR.t 2)]
theorem fr130_ok : fres Tryz.prog Tryz.f130.results.toList = some fr130 := by kernel_rfl
def ic42 : IC := (.seq (.reg [] (xt (.box 32 (xr 0)) 1 (xt (.mv (.const (.bool false))) 2 .done))) (.seq (.reg [] (xt (.fad (xr 1) 0) 3 (xt (.ld (xr 3) 1 false) 4 (xt (.bin .eql (xr 4) (.const (.int .i64 0))) 5 (xt (.mv (xr 5)) 6 (.op .t (.fad (xr 1) 1) (some 7) (some (6, true)) (.op .t (.ld (xr 7) 1 false) (some 8) (some (6, true)) (.op .t (.len (xr 8)) (some 9) (some (6, true)) (.op .t (.bin .eql (xr 9) (.const (.int .i64 0))) (some 10) (some (6, true)) (xt (.pick (xr 6) (xr 10) (.const (.bool false))) 11 (xt (.mv (xr 11)) 12 (.op .t (.fad (xr 1) 0) (some 13) (some (12, false)) (.op .t (.ld (xr 13) 1 false) (some 14) (some (12, false)) (.op .t (.call 36 [xr 14, (.const (.int .i64 2)), (.const (.int .i64 24))]) (some 15) (some (12, false)) (.op .t (.mv (xr 15)) (some 16) (some (12, false)) (.op .t (.fad (xr 1) 1) (some 17) (some (16, true)) (.op .t (.ld (xr 17) 1 false) (some 18) (some (16, true)) (.op .t (.len (xr 18)) (some 19) (some (16, true)) (.op .t (.fad (xr 1) 0) (some 20) (some (16, true)) (.op .t (.ld (xr 20) 1 false) (some 21) (some (16, true)) (.op .t (.bin .sub (xr 21) (.const (.int .i64 1))) (some 22) (some (16, true)) (.op .t (.call 36 [xr 19, (.const (.int .i64 1)), xr 22]) (some 23) (some (16, true)) (.op .t (.pick (xr 16) (xr 23) (.const (.bool false))) (some 24) (some (12, false)) (xt (.pick (xr 12) (.const (.bool true)) (xr 24)) 25 (xt (.mv (xr 25)) 2 .done))))))))))))))))))))))))) .ret))
theorem ic42_ok : Tryz.f42.body.bind (trC Tryz.prog []) = some ic42 := by kernel_rfl
def fr42 : List FR := [(FR.t 2)]
theorem fr42_ok : fres Tryz.prog Tryz.f42.results.toList = some fr42 := by kernel_rfl
def ic148 : IC := (.seq (.reg [] (xt (.box 32 (xr 0)) 1 (xt (.mv (.const (.bool false))) 2 .done))) (.seq (.reg [] (xt (.fad (xr 1) 0) 3 (xt (.ld (xr 3) 1 false) 4 (xt (.bin .eql (xr 4) (.const (.int .i64 0))) 5 (xt (.mv (xr 5)) 6 (.op .t (.fad (xr 1) 1) (some 7) (some (6, true)) (.op .t (.ld (xr 7) 1 false) (some 8) (some (6, true)) (.op .t (.len (xr 8)) (some 9) (some (6, true)) (.op .t (.bin .eql (xr 9) (.const (.int .i64 0))) (some 10) (some (6, true)) (xt (.pick (xr 6) (xr 10) (.const (.bool false))) 11 (xt (.mv (xr 11)) 12 (.op .t (.fad (xr 1) 0) (some 13) (some (12, false)) (.op .t (.ld (xr 13) 1 false) (some 14) (some (12, false)) (.op .t (.call 85 [xr 14, (.const (.int .i64 2)), (.const (.int .i64 24))]) (some 15) (some (12, false)) (.op .t (.mv (xr 15)) (some 16) (some (12, false)) (.op .t (.fad (xr 1) 1) (some 17) (some (16, true)) (.op .t (.ld (xr 17) 1 false) (some 18) (some (16, true)) (.op .t (.len (xr 18)) (some 19) (some (16, true)) (.op .t (.fad (xr 1) 0) (some 20) (some (16, true)) (.op .t (.ld (xr 20) 1 false) (some 21) (some (16, true)) (.op .t (.bin .sub (xr 21) (.const (.int .i64 1))) (some 22) (some (16, true)) (.op .t (.call 85 [xr 19, (.const (.int .i64 1)), xr 22]) (some 23) (some (16, true)) (.op .t (.pick (xr 16) (xr 23) (.const (.bool false))) (some 24) (some (12, false)) (xt (.pick (xr 12) (.const (.bool true)) (xr 24)) 25 (xt (.mv (xr 25)) 2 .done))))))))))))))))))))))))) .ret))
theorem ic148_ok : Tryz.f148.body.bind (trC Tryz.prog []) = some ic148 := by kernel_rfl
def fr148 : List FR := [(FR.t 2)]
theorem fr148_ok : fres Tryz.prog Tryz.f148.results.toList = some fr148 := by kernel_rfl
end Go.Proofs.YtpjaidjnamngaaaGreat
