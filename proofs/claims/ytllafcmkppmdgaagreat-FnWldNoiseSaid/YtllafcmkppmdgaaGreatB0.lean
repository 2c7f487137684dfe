/- The engine, first part: what stands for a value, and what is held of memory. · The engine: rows that nobody else holds, and what append does to them. · The engine, second part: what single operations do. · The engine, third part: single operations do what is said of them. -/
import Derived.Below
import Derived.WalkKit
import Derived.KernelRfl
import Derived.Deep.MidRow
import Derived.Laws.Rows
import Derived.Laws.AppendOwn
import Derived.Laws.OwnMore
import Derived.Maps.AppendAt
import Derived.ArgAppend
import Derived.IntWalk
namespace Go.Proofs.YtllafcmkppmdgaaGreat
set_option linter.unusedVariables false
set_option linter.unusedSimpArgs false
open Go.RowKit
/-! Two lists, place by place. -/
def DL {α β : Type} (R : α → β → Prop) : List α → List β → Prop
 | [], [] => True
 | x :: xs, y :: ys => R x y ∧ DL R xs ys
 | [], _ :: _ => False
 | _ :: _, [] => False
namespace DL
variable {α β : Type} {R R' : α → β → Prop}
theorem length : ∀ {xs : List α} {ys : List β}, DL R xs ys → xs.length = ys.length
 | [], [], _ => rfl
 | _ :: _, _ :: _, h => by simp [length h.2]
 | [], _ :: _, h => h.elim
 | _ :: _, [], h => h.elim
theorem mono (hm : ∀ x y, R x y → R' x y) : ∀ {xs : List α} {ys : List β}, DL R xs ys → DL R' xs ys
 | [], [], _ => trivial
 | _ :: _, _ :: _, h => ⟨hm _ _ h.1, mono hm h.2⟩
 | [], _ :: _, h => h.elim
 | _ :: _, [], h => h.elim
theorem get : ∀ {xs : List α} {ys : List β} {i : Nat} {x : α}, DL R xs ys → xs[i]? = some x → ∃ y, ys[i]? = some y ∧ R x y
 | x :: xs, y :: ys, 0, z, h, e => by simp at e; subst e; exact ⟨y, by simp, h.1⟩
 | x :: xs, y :: ys, i + 1, z, h, e => by simpa using get h.2 (by simpa using e)
 | [], ys, i, z, h, e => by simp at e
 | _ :: _, [], _, _, h, _ => h.elim
theorem get' : ∀ {xs : List α} {ys : List β} {i : Nat} {y : β}, DL R xs ys → ys[i]? = some y → ∃ x, xs[i]? = some x ∧ R x y
 | x :: xs, y :: ys, 0, z, h, e => by simp at e; subst e; exact ⟨x, by simp, h.1⟩
 | x :: xs, y :: ys, i + 1, z, h, e => by simpa using get' h.2 (by simpa using e)
 | xs, [], i, z, h, e => by simp at e
 | [], _ :: _, _, _, h, _ => h.elim
theorem set : ∀ {xs : List α} {ys : List β} (i : Nat) {x : α} {y : β}, DL R xs ys → R x y → DL R (xs.set i x) (ys.set i y)
 | [], [], _, _, _, _, _ => trivial
 | _ :: _, _ :: _, 0, _, _, h, k => ⟨k, h.2⟩
 | _ :: _, _ :: _, i + 1, _, _, h, k => ⟨h.1, set i h.2 k⟩
 | [], _ :: _, _, _, _, h, _ => h.elim
 | _ :: _, [], _, _, _, h, _ => h.elim
theorem take : ∀ {xs : List α} {ys : List β} (i : Nat), DL R xs ys → DL R (xs.take i) (ys.take i)
 | [], [], i, _ => by simp [DL]
 | _ :: _, _ :: _, 0, h => trivial
 | _ :: _, _ :: _, i + 1, h => ⟨h.1, take i h.2⟩
 | [], _ :: _, _, h => h.elim
 | _ :: _, [], _, h => h.elim
theorem drop : ∀ {xs : List α} {ys : List β} (i : Nat), DL R xs ys → DL R (xs.drop i) (ys.drop i)
 | [], [], i, _ => by simp [DL]
 | _ :: _, _ :: _, 0, h => h
 | _ :: _, _ :: _, i + 1, h => drop i h.2
 | [], _ :: _, _, h => h.elim
 | _ :: _, [], _, h => h.elim
theorem append : ∀ {xs xs' : List α} {ys ys' : List β}, DL R xs ys → DL R xs' ys' → DL R (xs ++ xs') (ys ++ ys')
 | [], _, [], _, _, k => k
 | _ :: _, _, _ :: _, _, h, k => ⟨h.1, append h.2 k⟩
 | [], _, _ :: _, _, h, _ => h.elim
 | _ :: _, _, [], _, h, _ => h.elim
theorem map_id {f : β → α} (h : ∀ c, R (f c) c) : ∀ l : List β, DL R (l.map f) l
 | [] => trivial
 | c :: l => ⟨h c, map_id h l⟩
theorem replicate {x : α} {y : β} (h : R x y) : ∀ n, DL R (List.replicate n x) (List.replicate n y)
 | 0 => trivial
 | n + 1 => ⟨h, replicate h n⟩
end DL
/-! What stands for values. -/
inductive SC where
 | v (x : Value)
 | p (k o : Nat)
 | s (k o n c : Nat)
 | f (A : Option Addr) (o : Nat)
inductive TE where
 | c (x : SC)
 | a (xs : List SC)
inductive SV where
 | any
 | c (x : SC)
 | a (xs : List SC)
 | t (xs : List TE)
abbrev Nm := List Nat
def SC.den (ρ : Nm) : SC → Value → Prop
 | .v x, u => u = x
 | .p k o, u => ∃ b, ρ[k]? = some b ∧ u = .pointer (some ⟨b, o, none⟩)
 | .s k o n c, u => ∃ b, ρ[k]? = some b ∧ u = .slice (some ⟨b, o, none⟩) n c
 | .f A o, u => ∃ b o', A = some ⟨b, o', none⟩ ∧ u = .pointer (some ⟨b, o' + o, none⟩)
def TE.den (ρ : Nm) : TE → Value → Prop
 | .c x, u => x.den ρ u
 | .a xs, u => ∃ vs, DL (SC.den ρ) xs vs ∧ u = .agg vs.toArray
def SV.den (ρ : Nm) : SV → Value → Prop
 | .any, _ => True
 | .c x, u => x.den ρ u
 | .a xs, u => ∃ vs, DL (SC.den ρ) xs vs ∧ u = .agg vs.toArray
 | .t xs, u => ∃ vs, DL (TE.den ρ) xs vs ∧ u = .tuple vs.toArray
theorem pre_get {ρ ρ' : Nm} (h : ρ <+: ρ') {k b : Nat} (e : ρ[k]? = some b) : ρ'[k]? = some b := by
 obtain ⟨t, rfl⟩ := h
 rw [List.getElem?_append_left (List.getElem?_eq_some_iff.1 e).1]; exact e
theorem SC.den.ext {ρ ρ' : Nm} (h : ρ <+: ρ') : ∀ {x : SC} {u : Value}, x.den ρ u → x.den ρ' u
 | .v _, _, e => e
 | .p _ _, _, ⟨b, e, k⟩ => ⟨b, pre_get h e, k⟩
 | .s _ _ _ _, _, ⟨b, e, k⟩ => ⟨b, pre_get h e, k⟩
 | .f _ _, _, e => e
theorem TE.den.ext {ρ ρ' : Nm} (h : ρ <+: ρ') : ∀ {x : TE} {u : Value}, x.den ρ u → x.den ρ' u
 | .c _, _, e => SC.den.ext h e
 | .a _, _, ⟨vs, e, k⟩ => ⟨vs, e.mono (fun _ _ => SC.den.ext h), k⟩
theorem SV.den.ext {ρ ρ' : Nm} (h : ρ <+: ρ') : ∀ {x : SV} {u : Value}, x.den ρ u → x.den ρ' u
 | .any, _, _ => trivial
 | .c _, _, e => SC.den.ext h e
 | .a _, _, ⟨vs, e, k⟩ => ⟨vs, e.mono (fun _ _ => SC.den.ext h), k⟩
 | .t _, _, ⟨vs, e, k⟩ => ⟨vs, e.mono (fun _ _ => TE.den.ext h), k⟩
def ofTE : Value → TE
 | .agg cs => .a (cs.toList.map .v)
 | x => .c (.v x)
def ofV : Value → SV
 | .agg cs => .a (cs.toList.map .v)
 | .tuple vs => .t (vs.toList.map ofTE)
 | x => .c (.v x)
theorem den_vs (ρ : Nm) (vs : List Value) : DL (SC.den ρ) (vs.map SC.v) vs := DL.map_id (R := SC.den ρ) (f := SC.v) (fun _ => rfl) vs
theorem ofTE_den (ρ : Nm) (x : Value) : (ofTE x).den ρ x := by
 cases x <;> first | exact ⟨_, den_vs ρ _, by simp⟩ | rfl
theorem ofV_den (ρ : Nm) (x : Value) : (ofV x).den ρ x := by
 cases x <;> first | exact ⟨_, den_vs ρ _, by simp⟩ | exact ⟨_, DL.map_id (ofTE_den ρ) _, by simp⟩ | rfl
/-! Memory. -/
structure Zc where
 ok : Nat → Prop
 w : World
def Zc.In (z : Zc) (b : Nat) : Prop := z.ok b ∧ b < z.w.heap.size
structure Zc.Le (z z' : Zc) : Prop where
 to : ∀ b, z.In b → z'.In b ∧ z'.w.heap[b]? = z.w.heap[b]?
instance : LE Zc := ⟨Zc.Le⟩
theorem Zc.rfl' (z : Zc) : z ≤ z := ⟨fun _ h => ⟨h, rfl⟩⟩
theorem Zc.trans' {a b c : Zc} (h : a ≤ b) (k : b ≤ c) : a ≤ c := ⟨fun x hx => ⟨(k.to x (h.to x hx).1).1, ((k.to x (h.to x hx).1).2).trans (h.to x hx).2⟩⟩
def RdAt (z : Zc) (A : Option Addr) (o : Nat) (vs : List Value) : Prop := vs ≠ [] → ∃ b o', A = some ⟨b, o', none⟩ ∧ z.In b ∧ ∀ i u, vs[i]? = some u → z.w.cell? ⟨b, o' + o + i, none⟩ = some u
theorem cell_same {W W' : World} {b o : Nat} (h : W'.heap[b]? = W.heap[b]?) : W'.cell? ⟨b, o, none⟩ = W.cell? ⟨b, o, none⟩ := by simp only [World.cell?, h]
theorem RdAt.mono {z z' : Zc} (h : z ≤ z') {A : Option Addr} {o : Nat} {vs : List Value} (r : RdAt z A o vs) : RdAt z' A o vs := fun hn => by
 obtain ⟨b, o', e, hb, hc⟩ := r hn
 exact ⟨b, o', e, (h.to b hb).1, fun i u hu => (cell_same (h.to b hb).2).trans (hc i u hu)⟩
theorem RdAt.nil (z : Zc) (A : Option Addr) (o : Nat) : RdAt z A o [] := fun h => absurd rfl h
theorem RdAt.sub {z : Zc} {A : Option Addr} {o : Nat} {vs : List Value} (r : RdAt z A o vs) (k : Nat) (us : List Value) (h : ∀ i u, us[i]? = some u → vs[k + i]? = some u) : RdAt z A (o + k) us := fun hn => by
 obtain ⟨u, us', rfl⟩ := List.exists_cons_of_ne_nil hn
 have h0 := h 0 u rfl
 obtain ⟨b, o', e, hb, hc⟩ := r (by intro e; rw [e] at h0; simp at h0)
 exact ⟨b, o', e, hb, fun i x hx => by rw [show o' + (o + k) + i = o' + o + (k + i) by omega]; exact hc _ _ (h i x hx)⟩
structure Asrt where
 holds : World → (Nat → Prop) → Prop
 loc : ∀ {w w' : World} {F : Nat → Prop}, holds w F → (∀ b, F b → w'.heap[b]? = w.heap[b]?) → holds w' F
 dom : ∀ {w : World} {F : Nat → Prop} {b : Nat}, holds w F → F b → b < w.heap.size
def emp : Asrt := ⟨fun _ F => ∀ b, ¬ F b, fun h _ => h, fun h k => absurd k (h _)⟩
inductive Ent where
 | cells (e : TypeId) (cs : List SC)
 | own (A : Asrt)
 | link (j b : Nat)
def EntH (ρ : Nm) (w : World) (k : Nat) : Ent → (Nat → Prop) → Prop
 | .cells e cs, F => ∃ b vs, ρ[k]? = some b ∧ DL (SC.den ρ) cs vs ∧ w.heap[b]? = some (.cells vs.toArray e (0, 0)) ∧ ∀ x, F x ↔ x = b
 | .own A, F => A.holds w F
 | .link j b, F => ρ[j]? = some b ∧ ∀ x, ¬ F x
abbrev Ents := List (Nat × Ent)
def Holds (ρ : Nm) (w : World) : Ents → (Nat → Prop) → Prop
 | [], F => ∀ b, ¬ F b
 | (k, e) :: L, F => ∃ F1 F2, EntH ρ w k e F1 ∧ Holds ρ w L F2 ∧ (∀ b, F1 b → ¬ F2 b) ∧ ∀ b, F b ↔ F1 b ∨ F2 b
theorem lt_of_heap {w : World} {b : Nat} {o : Obj} (h : w.heap[b]? = some o) : b < w.heap.size := (Array.getElem?_eq_some_iff.1 h).1
theorem EntH.dom {ρ : Nm} {w : World} {k : Nat} {F : Nat → Prop} {b : Nat} : ∀ {e : Ent}, EntH ρ w k e F → F b → b < w.heap.size
 | .cells _ _, ⟨b', vs, _, _, h, hF⟩, k => by rw [(hF b).1 k]; exact lt_of_heap h
 | .own A, h, k => A.dom h k
 | .link _ _, h, k => absurd k (h.2 _)
theorem EntH.loc {ρ : Nm} {w w' : World} {k : Nat} {F : Nat → Prop} : ∀ {e : Ent}, EntH ρ w k e F → (∀ b, F b → w'.heap[b]? = w.heap[b]?) → EntH ρ w' k e F
 | .cells _ _, ⟨b', vs, h1, h2, h, hF⟩, k => ⟨b', vs, h1, h2, (k b' ((hF b').2 rfl)).trans h, hF⟩
 | .own A, h, k => A.loc h k
 | .link _ _, h, _ => h
theorem EntH.ext {ρ ρ' : Nm} (hρ : ρ <+: ρ') {w : World} {k : Nat} {F : Nat → Prop} : ∀ {e : Ent}, EntH ρ w k e F → EntH ρ' w k e F
 | .cells _ _, ⟨b', vs, h1, h2, h, hF⟩ => ⟨b', vs, pre_get hρ h1, h2.mono (fun _ _ => SC.den.ext hρ), h, hF⟩
 | .own A, h => h
 | .link _ _, h => ⟨pre_get hρ h.1, h.2⟩
theorem EntH.iff {ρ : Nm} {w : World} {k : Nat} {F G : Nat → Prop} (e : F = G) {x : Ent} (h : EntH ρ w k x F) : EntH ρ w k x G := e ▸ h
namespace Holds
variable {ρ ρ' : Nm} {w w' : World} {F : Nat → Prop}
theorem dom {b : Nat} : ∀ {L : Ents} {F : Nat → Prop}, Holds ρ w L F → F b → b < w.heap.size
 | [], F, h, k => absurd k (h b)
 | (k, e) :: L, F, ⟨F1, F2, h1, h2, _, hF⟩, hb => ((hF b).1 hb).elim (fun x => h1.dom x) (fun x => dom h2 x)
theorem loc : ∀ {L : Ents} {F : Nat → Prop}, Holds ρ w L F → (∀ b, F b → w'.heap[b]? = w.heap[b]?) → Holds ρ w' L F
 | [], F, h, _ => h
 | (k, e) :: L, F, ⟨F1, F2, h1, h2, hd, hF⟩, hk => ⟨F1, F2, h1.loc (fun b hb => hk b ((hF b).2 (.inl hb))), loc h2 (fun b hb => hk b ((hF b).2 (.inr hb))), hd, hF⟩
theorem ext (hρ : ρ <+: ρ') : ∀ {L : Ents} {F : Nat → Prop}, Holds ρ w L F → Holds ρ' w L F
 | [], F, h => h
 | (k, e) :: L, F, ⟨F1, F2, h1, h2, hd, hF⟩ => ⟨F1, F2, h1.ext hρ, ext hρ h2, hd, hF⟩
theorem iff {L : Ents} {F G : Nat → Prop} (h : Holds ρ w L F) (e : ∀ b, F b ↔ G b) : Holds ρ w L G := by
 rw [show G = F from funext fun b => propext (e b).symm]; exact h
end Holds
def look (k : Nat) : Ents → Option Ent
 | [] => none
 | (j, e) :: L => if j = k then some e else look k L
def del (k : Nat) : Ents → Ents
 | [] => []
 | (j, e) :: L => if j = k then L else (j, e) :: del k L
theorem Holds.pick {ρ : Nm} {w : World} {k : Nat} {e : Ent} : ∀ {L : Ents} {F : Nat → Prop}, Holds ρ w L F → look k L = some e → Holds ρ w ((k, e) :: del k L) F
 | [], F, h, hk => by simp [look] at hk
 | (j, x) :: L, F, h, hk => by
  unfold look at hk
  unfold del
  split at hk
  ·rename_i hj
   injection hk with hk
   rw [if_pos hj, ← hj, ← hk]; exact h
  ·rename_i hj
   rw [if_neg hj]
   obtain ⟨F1, F2, h1, h2, hd, hF⟩ := h
   obtain ⟨G1, G2, k1, k2, kd, kF⟩ := Holds.pick h2 hk
   refine ⟨G1, fun b => F1 b ∨ G2 b, k1, ⟨F1, G2, h1, k2, fun b hb hg => hd b hb ((kF b).2 (.inr hg)), fun b => Iff.rfl⟩, fun b hb hg => ?_, fun b => ?_⟩
   ·rcases hg with hg | hg
    ·exact hd b hg ((kF b).2 (.inl hb))
    ·exact kd b hb hg
   ·rw [hF b, kF b]
    constructor
    ·rintro (h | h | h)
     ·exact .inr (.inl h)
     ·exact .inl h
     ·exact .inr (.inr h)
    ·rintro (h | h | h)
     ·exact .inr (.inl h)
     ·exact .inl h
     ·exact .inr (.inr h)
structure Ctx where
 w0 : World
 F0 : Nat → Prop
 z0 : Zc
structure WOk (C : Ctx) (z : Zc) (F : Nat → Prop) (w : World) : Prop where
 os : w.os = C.w0.os
 tape : w.tape = C.w0.tape
 output : w.output = C.w0.output
 size : C.w0.heap.size ≤ w.heap.size
 zsize : z.w.heap.size ≤ w.heap.size
 frz : ∀ b, z.In b → w.heap[b]? = z.w.heap[b]?
 dis : ∀ b, F b → ¬ z.In b
 unt : ∀ b, b < C.w0.heap.size → ¬ C.F0 b → w.heap[b]? = C.w0.heap[b]?
 own : ∀ b, F b → C.F0 b ∨ C.w0.heap.size ≤ b
 zin : ∀ b, z.In b → C.z0.In b ∨ C.F0 b ∨ C.w0.heap.size ≤ b
 zle : C.z0 ≤ z
structure St where
 t : List SV
 L : Ents
 z : Zc
 n : Nat
def Mem (C : Ctx) (ρ : Nm) (z : Zc) (L : Ents) (w : World) : Prop := ∃ F, Holds ρ w L F ∧ WOk C z F w
structure Sat (C : Ctx) (ρ : Nm) (s : St) (a : Act) (w : World) : Prop where
 df : a.defers = []
 fr : DL (SV.den ρ) s.t a.tmps.toList
 nm : ρ.length = s.n
 mem : Mem C ρ s.z s.L w
theorem WOk.start {w : World} {F : Nat → Prop} {z : Zc} (hs : z.w.heap.size ≤ w.heap.size) (hf : ∀ b, z.In b → w.heap[b]? = z.w.heap[b]?) (hd : ∀ b, F b → ¬ z.In b) : WOk ⟨w, F, z⟩ z F w :=
 ⟨rfl, rfl, rfl, Nat.le_refl _, hs, hf, hd, fun _ _ _ => rfl, fun _ h => .inl h, fun _ h => .inl h, Zc.rfl' z⟩
namespace Mem
variable {C : Ctx} {ρ : Nm} {z : Zc} {L : Ents} {w : World}
theorem drew (h : Mem C ρ z L w) : Mem C ρ z L w.drew := by
 obtain ⟨F, h1, h2⟩ := h
 exact ⟨F, h1.loc (fun _ _ => rfl), ⟨h2.os, h2.tape, h2.output, h2.size, h2.zsize, h2.frz, h2.dis, h2.unt, h2.own, h2.zin, h2.zle⟩⟩
theorem alloc {e : TypeId} {cs : List SC} {vs : List Value} (h : Mem C ρ z L w) (hc : DL (SC.den ρ) cs vs) :
  Mem C (ρ ++ [w.heap.size]) z ((ρ.length, .cells e cs) :: L) (w.alloc (.cells vs.toArray e)) := by
 obtain ⟨F, h1, h2⟩ := h
 have hp : ρ <+: ρ ++ [w.heap.size] := List.prefix_append _ _
 have hold : ∀ b, b < w.heap.size → (w.alloc (.cells vs.toArray e)).heap[b]? = w.heap[b]? := fun b hb => Below.heap_alloc _ _ _ hb
 refine ⟨fun b => b = w.heap.size ∨ F b, ⟨fun b => b = w.heap.size, F, ⟨w.heap.size, vs, by simp, hc.mono (fun _ _ => SC.den.ext hp), heap_alloc_new w _, fun _ => Iff.rfl⟩, (h1.loc (fun b hb => hold b (h1.dom hb))).ext hp, fun b hb hF => ?_, fun b => Iff.rfl⟩, ?_⟩
 ·have := h1.dom hF; omega
 ·have hz : ∀ b, z.In b → b < w.heap.size := fun b hb => Nat.lt_of_lt_of_le hb.2 h2.zsize
  refine ⟨h2.os, h2.tape, h2.output, by simp; exact Nat.le_succ_of_le h2.size, by simp; exact Nat.le_succ_of_le h2.zsize, fun b hb => (hold b (hz b hb)).trans (h2.frz b hb), ?_, ?_, ?_, h2.zin, h2.zle⟩
  ·rintro b (rfl | hb) hz'
   ·exact absurd (hz _ hz') (Nat.lt_irrefl _)
   ·exact h2.dis b hb hz'
  ·intro b hb hF
   exact (hold b (Nat.lt_of_lt_of_le hb h2.size)).trans (h2.unt b hb hF)
  ·rintro b (rfl | hb)
   ·exact .inr h2.size
   ·exact h2.own b hb
theorem cells {k : Nat} {e : TypeId} {cs : List SC} (h : Mem C ρ z L w) (hk : look k L = some (.cells e cs)) :
  ∃ b vs, ρ[k]? = some b ∧ DL (SC.den ρ) cs vs ∧ w.heap[b]? = some (.cells vs.toArray e (0, 0)) := by
 obtain ⟨F, h1, h2⟩ := h
 obtain ⟨F1, F2, ⟨b, vs, a1, a2, a3, _⟩, _⟩ := h1.pick hk
 exact ⟨b, vs, a1, a2, a3⟩
theorem turn {k : Nat} {e : TypeId} {cs cs' : List SC} {vs' : List Value} (h : Mem C ρ z L w) (hk : look k L = some (.cells e cs)) (hc : DL (SC.den ρ) cs' vs') {b : Nat} (hb : ρ[k]? = some b) {w' : World}
  (h1 : w'.heap[b]? = some (.cells vs'.toArray e (0, 0))) (h2 : ∀ x, x ≠ b → w'.heap[x]? = w.heap[x]?) (h3 : w'.heap.size = w.heap.size) (h4 : w'.os = w.os ∧ w'.tape = w.tape ∧ w'.output = w.output) :
  Mem C ρ z ((k, .cells e cs') :: del k L) w' := by
 obtain ⟨F, hh, hw⟩ := h
 obtain ⟨F1, F2, ⟨b', vs, a1, a2, a3, a4⟩, k2, kd, kF⟩ := hh.pick hk
 rw [hb] at a1
 injection a1 with a1
 subst a1
 have hF : F b := (kF b).2 (.inl ((a4 b).2 rfl))
 refine ⟨F, ⟨F1, F2, ⟨b, vs', hb, hc, h1, a4⟩, k2.loc (fun x hx => h2 x ?_), kd, kF⟩, ?_⟩
 ·rintro rfl; exact kd x ((a4 x).2 rfl) hx
 ·refine ⟨h4.1.trans hw.os, h4.2.1.trans hw.tape, h4.2.2.trans hw.output, h3 ▸ hw.size, h3 ▸ hw.zsize, fun x hx => (h2 x ?_).trans (hw.frz x hx), hw.dis, fun x hx hF0 => (h2 x ?_).trans (hw.unt x hx hF0), hw.own, hw.zin, hw.zle⟩
  ·rintro rfl; exact hw.dis x hF hx
  ·rintro rfl; exact (hw.own x hF).elim hF0 (fun h => by omega)
theorem rd {A : Option Addr} {o : Nat} {vs : List Value} (h : Mem C ρ z L w) (r : RdAt z A o vs) (hn : vs ≠ []) : ∃ b o', A = some ⟨b, o', none⟩ ∧ z.In b ∧ w.rangeAt b (o' + o) vs := by
 obtain ⟨F, h1, h2⟩ := h
 obtain ⟨b, o', e, hb, hc⟩ := r hn
 exact ⟨b, o', e, hb, fun i u hu => (cell_same (h2.frz b hb)).trans (hc i u hu)⟩
theorem freeze {k : Nat} {e : TypeId} {cs : List SC} (h : Mem C ρ z L w) (hk : look k L = some (.cells e cs)) :
  ∃ b vs z', ρ[k]? = some b ∧ DL (SC.den ρ) cs vs ∧ z ≤ z' ∧ RdAt z' (some ⟨b, 0, none⟩) 0 vs ∧ z'.In b ∧ Mem C ρ z' (del k L) w ∧ w.heap[b]? = some (.cells vs.toArray e (0, 0)) := by
 obtain ⟨F, hh, hw⟩ := h
 obtain ⟨F1, F2, ⟨b, vs, a1, a2, a3, a4⟩, k2, kd, kF⟩ := hh.pick hk
 have hF : F b := (kF b).2 (.inl ((a4 b).2 rfl))
 have hlt : ∀ x, z.In x → x < w.heap.size := fun x hx => Nat.lt_of_lt_of_le hx.2 hw.zsize
 refine ⟨b, vs, ⟨fun x => z.In x ∨ x = b, w⟩, a1, a2, ⟨fun x hx => ⟨⟨.inl hx, hlt x hx⟩, hw.frz x hx⟩⟩, fun hn => ⟨b, 0, rfl, ⟨.inr rfl, lt_of_heap a3⟩, fun i u hu => ?_⟩, ⟨.inr rfl, lt_of_heap a3⟩, ⟨F2, k2, ?_⟩, a3⟩
 ·rw [cell_of_row _ _ _ _ _ _ a3]; simpa using hu
 ·refine ⟨hw.os, hw.tape, hw.output, hw.size, Nat.le_refl _, fun _ _ => rfl, ?_, hw.unt, fun x hx => hw.own x ((kF x).2 (.inr hx)), ?_, Zc.trans' hw.zle ⟨fun x hx => ⟨⟨.inl hx, hlt x hx⟩, hw.frz x hx⟩⟩⟩
  ·rintro x hx ⟨h | rfl, _⟩
   ·exact hw.dis x ((kF x).2 (.inr hx)) h
   ·exact kd x ((a4 x).2 rfl) hx
  ·rintro x ⟨h | rfl, _⟩
   ·exact hw.zin x h
   ·rcases hw.own x hF with h | h
    ·exact .inr (.inl h)
    ·exact .inr (.inr h)
theorem call {G F : Nat → Prop} {k : Nat} {A A' : Asrt} {z' : Zc} {F' : Nat → Prop} {w' : World} (hA : A.holds w G) (hL : Holds ρ w L F) (hd : ∀ b, G b → ¬ F b) (hw : WOk C z (fun b => G b ∨ F b) w)
  (hA' : A'.holds w' F') (h : WOk ⟨w, G, z⟩ z' F' w') : Mem C ρ z' ((k, .own A') :: L) w' := by
 have hlt : ∀ b, F b → b < w.heap.size := fun b hb => hL.dom hb
 have hkeep : ∀ b, F b → w'.heap[b]? = w.heap[b]? := fun b hb => h.unt b (hlt b hb) (fun hg => hd b hg hb)
 refine ⟨fun b => F' b ∨ F b, ⟨F', F, hA', hL.loc hkeep, fun b hb hF => ?_, fun b => Iff.rfl⟩, ?_⟩
 ·rcases h.own b hb with hg | hg
  ·exact hd b hg hF
  ·have h1 := hlt b hF; have h2 : w.heap.size ≤ b := hg; omega
 ·refine ⟨h.os.trans hw.os, h.tape.trans hw.tape, h.output.trans hw.output, Nat.le_trans hw.size h.size, h.zsize, h.frz, ?_, ?_, ?_, ?_, Zc.trans' hw.zle h.zle⟩
  ·rintro b (hb | hb)
   ·exact h.dis b hb
   ·intro hz
    rcases h.zin b hz with h1 | h1 | h1
    ·exact hw.dis b (.inr hb) h1
    ·exact hd b h1 hb
    ·have h2 := hlt b hb
     have h3 : w.heap.size ≤ b := h1
     omega
  ·intro b hb hF0
   have hb' : b < w.heap.size := Nat.lt_of_lt_of_le hb hw.size
   refine (h.unt b hb' (fun hg => ?_)).trans (hw.unt b hb hF0)
   rcases hw.own b (.inl hg) with h1 | h1
   ·exact hF0 h1
   ·omega
  ·rintro b (hb | hb)
   ·rcases h.own b hb with h1 | h1
    ·exact hw.own b (.inl h1)
    ·exact .inr (Nat.le_trans hw.size h1)
   ·exact hw.own b (.inr hb)
  ·intro b hb
   rcases h.zin b hb with h1 | h1 | h1
   ·exact hw.zin b h1
   ·rcases hw.own b (.inl h1) with h2 | h2
    ·exact .inr (.inl h2)
    ·exact .inr (.inr h2)
   ·exact .inr (.inr (Nat.le_trans hw.size h1))
end Mem
theorem Holds.emp {ρ : Nm} {w : World} {L : Ents} {F : Nat → Prop} (h : Holds ρ w L F) (k : Nat) : Holds ρ w ((k, .own emp) :: L) F := ⟨fun _ => False, F, fun _ h => h, h, fun _ h => h.elim, fun b => by simp⟩
theorem Mem.drop {C : Ctx} {ρ : Nm} {z : Zc} {L : Ents} {w : World} {k : Nat} {e : Ent} (h : Mem C ρ z ((k, e) :: L) w) : Mem C ρ z L w := by
 obtain ⟨F, ⟨F1, F2, h1, h2, hd, hF⟩, hw⟩ := h
 exact ⟨F2, h2, ⟨hw.os, hw.tape, hw.output, hw.size, hw.zsize, hw.frz, fun b hb => hw.dis b ((hF b).2 (.inr hb)), hw.unt, fun b hb => hw.own b ((hF b).2 (.inr hb)), hw.zin, hw.zle⟩⟩
end Go.Proofs.YtllafcmkppmdgaaGreat
namespace Go.Proofs.YtllafcmkppmdgaaGreat
open Go.RowKit
set_option linter.unusedVariables false
set_option linter.unusedSimpArgs false
theorem add_at (b o j : Nat) : (⟨b, o, none⟩ : Addr).add j = ⟨b, o + j, none⟩ := by unfold Addr.add; split <;> simp_all
def Rd (W : World) (A : Option Addr) (cs : List Value) : Prop := cs ≠ [] → ∃ b o, A = some ⟨b, o, none⟩ ∧ ∀ i u, cs[i]? = some u → W.cell? ⟨b, o + i, none⟩ = some u
theorem Rd.nil (W : World) (A : Option Addr) : Rd W A [] := fun h => absurd rfl h
theorem setCells_size (b : Nat) : ∀ (vs : List Value) (o : Nat) (w : World), (w.setCells b o vs).heap.size = w.heap.size
 | [], _, _ => rfl
 | v :: r, o, w => by rw [World.setCells, setCells_size b r]; simp [World.setCell]
theorem setCells_other (b k : Nat) (h : k ≠ b) : ∀ (vs : List Value) (o : Nat) (w : World), (w.setCells b o vs).heap[k]? = w.heap[k]?
 | [], _, _ => rfl
 | v :: r, o, w => by rw [World.setCells, setCells_other b k h r]; exact heap_setCell_other w _ k v h
theorem setCells_os (b : Nat) : ∀ (vs : List Value) (o : Nat) (w : World), (w.setCells b o vs).os = w.os ∧ (w.setCells b o vs).tape = w.tape ∧ (w.setCells b o vs).output = w.output
 | [], _, _ => ⟨rfl, rfl, rfl⟩
 | v :: r, o, w => by rw [World.setCells]; exact setCells_os b r (o + 1) _
theorem setCells_heap (g : Nat) (e : TypeId) : ∀ (vs : List Value) (o : Nat) (w : World) (cur : Array Value), w.heap[g]? = some (.cells cur e (0, 0)) → o + vs.length ≤ cur.size →
  ∃ cur', (w.setCells g o vs).heap[g]? = some (.cells cur' e (0, 0)) ∧ cur'.toList = cur.toList.take o ++ vs ++ cur.toList.drop (o + vs.length)
 | [], o, w, cur, h, _ => ⟨cur, h, by simp⟩
 | v :: r, o, w, cur, h, hl => by
  rw [World.setCells]
  simp only [List.length_cons] at hl
  obtain ⟨cur', h1, h2⟩ := setCells_heap g e r (o + 1) (w.setCell ⟨g, o, none⟩ v) (cur.setIfInBounds o v) (heap_setCell_same w g o cur e v h) (by simp; omega)
  refine ⟨cur', h1, ?_⟩
  rw [h2, Array.toList_setIfInBounds]
  have ho : o < cur.toList.length := by simp; omega
  rw [List.take_set, List.drop_set_of_lt (by omega)]
  have e1 : (cur.toList.take (o + 1)).set o v = cur.toList.take o ++ [v] := by
   rw [List.take_add_one, List.getElem?_eq_getElem ho]
   rw [List.set_append_right _ _ (by simp; omega)]
   have hm : o - (cur.toList.take o).length = 0 := by simp; omega
   rw [hm]; simp
  rw [e1]
  simp only [List.append_assoc, List.cons_append, List.nil_append, List.length_cons]
  congr 4
  omega
def Row (W : World) (e sz : Nat) (v : Value) (n : Nat) (cs : List Value) : Prop :=
 cs.length = n * sz ∧ ((v = .slice none 0 0 ∧ n = 0) ∨
  ∃ g o cap cur, v = .slice (some ⟨g, o, none⟩) n cap ∧ W.heap[g]? = some (.cells cur e (0, 0)) ∧ n ≤ cap ∧ cap ≤ maxLen ∧ o + cap * sz ≤ cur.size ∧ (cur.toList.drop o).take (n * sz) = cs)
section
variable {W W1 : World} {e sz : Nat} {v : Value} {n : Nat} {cs : List Value}
theorem Row.nil (W : World) (e sz : Nat) : Row W e sz (.slice none 0 0) 0 [] := ⟨by simp, .inl ⟨rfl, rfl⟩⟩
theorem Row.of_own {base : Nat} (h : W.ownsRow base e sz v n cs) : Row W e sz v n cs := by
 refine ⟨h.1, ?_⟩
 rcases h.2 with h | ⟨g, cap, cur, h1, h2, h3, h4, h5, h6, h7⟩
 ·exact .inl h
 ·exact .inr ⟨g, 0, cap, cur, h1, h3, h4, h5, by omega, by simpa using h7⟩
theorem Row.keep (h : Row W e sz v n cs) (hk : ∀ g, v.ownBlock = some g → W1.heap[g]? = W.heap[g]?) : Row W1 e sz v n cs := by
 refine ⟨h.1, ?_⟩
 rcases h.2 with h | ⟨g, o, cap, cur, rfl, h3, r⟩
 ·exact .inl h
 ·have hlt : g < W.heap.size := (Array.getElem?_eq_some_iff.1 h3).1
  exact .inr ⟨g, o, cap, cur, rfl, (hk g rfl).trans h3, r⟩
theorem Row.lt (h : Row W e sz v n cs) : ∀ g, v.ownBlock = some g → g < W.heap.size := by
 intro k hk
 rcases h.2 with ⟨rfl, _⟩ | ⟨g, o, cap, cur, rfl, h3, _⟩
 ·simp [Value.ownBlock] at hk
 ·simp [Value.ownBlock] at hk
  subst hk
  exact (Array.getElem?_eq_some_iff.1 h3).1
theorem Row.form (h : Row W e sz v n cs) : ∃ A c, v = .slice A n c ∧ n ≤ c ∧ c ≤ maxLen := by
 rcases h.2 with ⟨rfl, rfl⟩ | ⟨g, o, cap, cur, rfl, h1, h2, h3, _⟩
 ·exact ⟨none, 0, rfl, Nat.le_refl _, by simp [maxLen]⟩
 ·exact ⟨_, _, rfl, h2, h3⟩
theorem drop_take_get {l : List Value} {o m i : Nat} {u : Value} (h : ((l.drop o).take m)[i]? = some u) : l[o + i]? = some u := by
 have hi := (List.getElem?_eq_some_iff.mp h).1
 simp only [List.length_take] at hi
 rw [List.getElem?_take_of_lt (by omega), List.getElem?_drop] at h
 exact h
theorem Row.rd (h : Row W e sz v n cs) : ∃ A c, v = .slice A n c ∧ n ≤ c ∧ Rd W A cs := by
 rcases h.2 with ⟨rfl, rfl⟩ | ⟨g, o, cap, cur, rfl, h1, h2, h3, h4, h5⟩
 ·have : cs = [] := List.eq_nil_of_length_eq_zero (by simpa using h.1)
  subst this
  exact ⟨none, 0, rfl, Nat.le_refl _, Rd.nil _ _⟩
 ·refine ⟨_, _, rfl, h2, fun _ => ⟨g, o, rfl, fun i u hu => ?_⟩⟩
  rw [← h5] at hu
  simp only [World.cell?, h1]
  have := drop_take_get hu
  simpa using this
theorem run_append_of_nothing {P : Program} (t ty e : TypeId) (i : TypeInfo) (ht : P.underlying t = some (.slice e)) (hi : P.info? e = some i) (w : World)
  (v : Value) (n : Nat) (hv : v = .slice none 0 0 ∧ n = 0 ∨ ∃ a cap, v = .slice (some a) n cap ∧ n ≤ cap) (c : Nat) : (Builtin.append_ #[t, t] ty #[v, .slice none 0 c]).run P w = .ok v w := by
 rcases hv with ⟨rfl, rfl⟩ | ⟨a, cap, rfl, hnc⟩
 ·simp [Builtin.append_, run_underlying ht, sizeOf, typeInfo, hi, Builtin.lenOf, Builtin.firstCells]
 ·simp [Builtin.append_, run_underlying ht, sizeOf, typeInfo, hi, Builtin.lenOf, Builtin.firstCells, hnc, storeCells]
theorem run_append_row {P : Program} (w : World) (t ty e : TypeId) (i : TypeInfo) (z : Value) (size bytes : Nat) (ht : P.underlying t = some (.slice e)) (hi : P.info? e = some i) (hz : i.zero = some z)
  (hsize : i.size = size) (hby : i.bytes = bytes) (hzs : z.cells.size = size) (hsz : 0 < size)
  (v : Value) (n : Nat) (xs : List Value) (hown : Row w e size v n xs)
  (A : Option Addr) (m c : Nat) (news : List Value) (hl : news.length = m * size) (hr : Rd w A news) (h1 : ∀ u ∈ news, u.oneCell' = true)
  (h63 : n + m ≤ maxLen) (hbytes : (n + m) * bytes ≤ 140737488355328) :
  ∃ v' w', (Builtin.append_ #[t, t] ty #[v, .slice A m c]).run P w = .ok v' w' ∧ Row w' e size v' (n + m) (xs ++ news) ∧ w.grownBy w' v.ownBlock ∧ (v'.ownBlock = v.ownBlock ∨ v'.ownBlock = some w.heap.size) := by
 rcases A with _ | ad
 ·have hm : news = [] := by
   rcases news with _ | ⟨u, r⟩
   ·rfl
   ·obtain ⟨b, o, h, _⟩ := hr (by simp); cases h
  subst hm
  have hm0 : m = 0 := by
   simp only [List.length_nil] at hl
   rcases Nat.eq_zero_or_pos m with h | h
   ·exact h
   ·exact absurd hl (Nat.ne_of_lt (Nat.mul_pos h hsz))
  subst hm0
  refine ⟨v, w, run_append_of_nothing t ty e i ht hi w v n ?_ c, by simpa using hown, World.grownBy.refl w _, .inl rfl⟩
  rcases hown.2 with h | ⟨g, o, cap, cur, h1, h2, h3, _⟩
  ·exact .inl h
  ·exact .inr ⟨_, cap, h1, h3⟩
 ·have hnews : ∀ j u, news[j]? = some u → w.cell? (ad.add j) = some u := by
   intro j u hu
   obtain ⟨b, o, he, hc⟩ := hr (by intro h; subst h; simp at hu)
   injection he with he
   subst he
   rw [add_at]
   exact hc j u hu
  rcases hown.2 with ⟨rfl, rfl⟩ | ⟨g, o, cap, cur, rfl, hg, hnc, hcm, hcs, htake⟩
  ·have hx : xs = [] := List.eq_nil_of_length_eq_zero (by simpa using hown.1)
   subst hx
   obtain ⟨v', w', k1, k2, k3, _, k5⟩ := run_append_own_at (P := P) w w.heap.size t ty e i z size bytes ht hi hz hsize hby hzs hsz (.slice none 0 0) 0 [] (World.ownsRow_nil w _ e size) ad m c news hl hnews h1 h63 hbytes (Nat.le_refl _)
   exact ⟨v', w', k1, Row.of_own k2, k3, k5⟩
  ·have holds : ∀ j u, xs[j]? = some u → w.cell? ⟨g, o + j, none⟩ = some u := by
    intro j u hu
    rw [← htake] at hu
    rw [cell_of_row w g _ cur e (0, 0) hg]
    have := drop_take_get hu
    simpa using this
   by_cases hroom : n + m ≤ cap
   ·subst hsize
    have hmul : n * i.size + m * i.size ≤ cap * i.size := by rw [← Nat.add_mul]; exact Nat.mul_le_mul_right _ hroom
    have hcell : ∀ j, j < news.length → (w.cell? ⟨g, o + n * i.size + j, none⟩).isSome = true := by
     intro j hj
     rw [cell_of_row w g _ cur e (0, 0) hg]
     simp
     omega
    have hrun := run_append_room_cells (P := P) w t ty e i ht hi g o n cap ad m c news hl hnews h1 hroom hcell (fun j _ => frozen_of_row w g _ cur e hg)
    obtain ⟨cur', c1, c2⟩ := setCells_heap g e news (o + n * i.size) w cur hg (by omega)
    have hos := setCells_os g news (o + n * i.size) w
    refine ⟨_, _, hrun, ⟨by rw [List.length_append, hown.1, hl, Nat.add_mul], .inr ⟨g, o, cap, cur', rfl, c1, hroom, hcm, ?_, ?_⟩⟩, ⟨hos.1, hos.2.1, hos.2.2, by rw [setCells_size]; exact Nat.le_refl _, fun k _ hk => setCells_other g k (fun e => hk (by simp [Value.ownBlock, e])) _ _ _⟩, .inl rfl⟩
    ·have : cur'.size = cur.size := by
      have := congrArg List.length c2
      simp only [Array.length_toList, List.length_append, List.length_take, List.length_drop] at this
      omega
     omega
    ·rw [c2]
     have hlen : (cur.toList.take (o + n * i.size)).length = o + n * i.size := by simp; omega
     rw [List.append_assoc, List.drop_append_of_le_length (by omega), List.drop_take]
     have e1 : (cur.toList.drop o).take (o + n * i.size - o) = xs := by rw [← htake]; congr 1; omega
     rw [e1, Nat.add_mul, ← hown.1, ← hl, ← List.append_assoc]
     rw [show xs.length + news.length = (xs ++ news).length by simp]
     exact List.take_left
   ·obtain ⟨v', w', hrun, r1, r2⟩ := run_append_arg_grows (P := P) w t ty e i z size bytes ht hi hz hsize hby hzs hsz ⟨g, o, none⟩ n cap xs hown.1 (fun j u hj => by rw [add_at]; exact holds j u hj) ad m c news hl hnews (by omega) h63 hbytes
    refine ⟨v', w', hrun, Row.of_own r1, ⟨r2.os, r2.tape, r2.output, r2.size, fun k hk _ => r2.block k hk (by simp)⟩, ?_⟩
    have hr2 := run_append_grow (P := P) w t ty e i z ht hi hz ⟨g, o, none⟩ n cap xs (by rw [hsize]; exact hown.1) (fun j u hj => by rw [add_at]; exact holds j u hj) ad m c news (by rw [hsize]; exact hl) hnews (by omega) (by simp only [maxLen] at h63; omega) (growslice_fits (by omega) (by rw [hby]; exact hbytes))
    rw [hrun] at hr2
    injection hr2 with hv _
    right
    rw [hv]
    rfl
end
def rowA (e sz : Nat) (v : Value) (n : Nat) (cs : List Value) : Asrt where
 holds w F := Row w e sz v n cs ∧ ∀ b, F b ↔ v.ownBlock = some b
 loc := fun h k => ⟨h.1.keep (fun g hg => k g ((h.2 g).2 hg)), h.2⟩
 dom := fun h hb => h.1.lt _ ((h.2 _).1 hb)
def RdS (z : Zc) (L : Ents) (A : Option Addr) (o : Nat) (vs : List Value) : Prop := RdAt z A o vs ∨ ∃ k e sz n c cs, look k L = some (.own (rowA e sz (.slice A n c) n cs)) ∧ ∀ i u, vs[i]? = some u → cs[o + i]? = some u
theorem Mem.rdS {C : Ctx} {ρ : Nm} {z : Zc} {L : Ents} {w : World} {A : Option Addr} {o : Nat} {vs : List Value} (h : Mem C ρ z L w) (r : RdS z L A o vs) (hn : vs ≠ []) : ∃ b o', A = some ⟨b, o', none⟩ ∧ w.rangeAt b (o' + o) vs := by
 rcases r with r | ⟨k, e, sz, n, c, cs, hk, hc⟩
 ·obtain ⟨b, o', h1, _, h2⟩ := h.rd r hn; exact ⟨b, o', h1, h2⟩
 ·obtain ⟨F, hh, hw⟩ := h
  obtain ⟨F1, F2, ⟨hrow, _⟩, _⟩ := hh.pick hk
  obtain ⟨A', c', h1, h2, h3⟩ := hrow.rd
  injection h1 with h1 _ h4
  subst h1
  obtain ⟨u, us, rfl⟩ := List.exists_cons_of_ne_nil hn
  have h0 := hc 0 u rfl
  obtain ⟨b, o', h5, h6⟩ := h3 (by intro e; rw [e] at h0; simp at h0)
  exact ⟨b, o', h5, fun i x hx => by rw [Nat.add_assoc]; exact h6 _ _ (hc i x hx)⟩
/-! Frames. -/
def unS : SV := .c (.v (.tuple #[]))
def gt : List SV → Nat → SV
 | [], _ => unS
 | x :: _, 0 => x
 | _ :: l, n + 1 => gt l n
def st : List SV → Nat → SV → List SV
 | [], _, _ => []
 | _ :: l, 0, v => v :: l
 | x :: l, n + 1, v => x :: st l n v
theorem st_eq : ∀ (l : List SV) (n : Nat) (v : SV), st l n v = l.set n v
 | [], _, _ => by simp [st]
 | _ :: l, 0, v => rfl
 | x :: l, n + 1, v => by simp [st, st_eq l n v]
def stO (l : List SV) : Option Nat → SV → List SV
 | none, _ => l
 | some d, v => st l d v
theorem gt_den {ρ : Nm} : ∀ {l : List SV} {vs : List Value} (n : Nat), DL (SV.den ρ) l vs → (gt l n).den ρ (vs.getD n undef)
 | [], [], _, _ => rfl
 | _ :: _, _ :: _, 0, h => h.1
 | _ :: _, _ :: _, n + 1, h => by simpa [gt] using gt_den n h.2
 | [], _ :: _, _, h => h.elim
 | _ :: _, [], _, h => h.elim
theorem stO_den {ρ : Nm} {l : List SV} {a : Act} (h : DL (SV.den ρ) l a.tmps.toList) (d : Option Nat) {sv : SV} {v : Value} (hv : sv.den ρ v) : DL (SV.den ρ) (stO l d sv) (a.put d v).tmps.toList := by
 cases d with
 | none => exact h
 | some d => simp only [stO, st_eq, Act.put, Array.toList_setIfInBounds]; exact h.set d hv
def ev (t : List SV) : Operand → SV
 | .tmp n => gt t n
 | .const v => ofV v
 | .global g => .c (.v (.pointer (some ⟨g, 0, none⟩)))
 | .func f => .c (.v (.func (.func f) #[] #[]))
theorem ev_den {ρ : Nm} {t : List SV} {a : Act} (h : DL (SV.den ρ) t a.tmps.toList) (x : Operand) : (ev t x).den ρ (a.eval x) := by
 cases x with
 | tmp n => have := gt_den n h; simpa [ev, Act.eval] using this
 | const v => exact ofV_den ρ v
 | global g => rfl
 | func f => rfl
/-! Operations, with their places and sizes. -/
inductive IOp where
 | mv (x : Operand)
 | pick (c a b : Operand)
 | ext (x : Operand) (i : Nat)
 | fld (x : Operand) (off sz : Nat) (agg : Bool)
 | nil (x : Operand)
 | fad (x : Operand) (off : Nat)
 | iad (x i : Operand) (sz : Nat)
 | slc (x : Operand) (lo hi : Option Operand) (sz : Nat)
 | sl3 (x : Operand) (lo : Option Operand) (hi mx : Operand) (sz : Nat)
 | bin (op : BinOp) (x y : Operand)
 | eqb (neg : Bool) (x y : Operand)
 | isn (neg : Bool) (x : Operand)
 | not (x : Operand)
 | cvi (k : IntKind) (x : Operand)
 | bld (zero : List Value) (parts : List (Nat × Nat × Operand))
 | len (x : Operand)
 | mn (x y : Operand)
 | mx (x y : Operand)
 | ld (x : Operand) (sz : Nat) (agg : Bool)
 | alc (e : TypeId) (zero : List Value)
 | box (e : TypeId) (x : Operand)
 | bsl (e : TypeId) (sz len : Nat) (zero : List Value) (parts : List (Nat × Operand))
 | sto (x y : Operand) (sz : Nat)
 | call (f : FuncId) (args : List Operand)
 | app (t : TypeId) (s x : Operand)
 | oth (o : Op)
def szOf (P : Program) (t : TypeId) : Option (Nat × Bool) := match P.info? t, P.underlying t with
 | some i, some d => some (i.size, d.isRow)
 | _, _ => none
def zeroOf (P : Program) (t : TypeId) : Option (List Value) := match P.info? t with
 | some i => i.zero.map fun z => z.cells.toList
 | none => none
def isInt (P : Program) (t : TypeId) : Option IntKind := match P.underlying t with
 | some (.int k) => some k
 | _ => none
def isSlice (P : Program) (t : TypeId) : Option TypeId := match P.underlying t with
 | some (.slice e) => some e
 | _ => none
def fields (P : Program) (t : TypeId) : Option (Array Field) := match P.underlying t with
 | some (.struct fs) => some fs
 | _ => none
def isBool (P : Program) (t : TypeId) : Bool := match P.underlying t with
 | some .bool => true
 | _ => false
def isNilC : Operand → Bool
 | .const (.slice none _ _) => true
 | _ => false
def arith : BinOp → Bool
 | .andNot => false
 | _ => true
def placesOf (P : Program) (fs : Array Field) : List (Nat × Operand) → Option (List (Nat × Nat × Operand))
 | [] => some []
 | (i, x) :: r => match fs[i]? with
  | some f => match szOf P f.type, placesOf P fs r with
   | some (sz, _), some r' => some ((f.offset, sz, x) :: r')
   | _, _ => none
  | none => none
def trCall (P : Program) (c : Call) : IOp := match c.callee with
 | .builtin .len => match c.args.toList, c.argTypes.toList with
  | [x], [t] => if (isSlice P t).isSome then .len x else .oth (.call c)
  | _, _ => .oth (.call c)
 | .builtin .min => match c.args.toList with
  | [x, y] => .mn x y
  | _ => .oth (.call c)
 | .builtin .max => match c.args.toList with
  | [x, y] => .mx x y
  | _ => .oth (.call c)
 | .builtin .append => match c.args.toList, c.argTypes.toList with
  | [s, x], [t, t'] => if t == t' then .app t s x else .oth (.call c)
  | _, _ => .oth (.call c)
 | .value (.func f) => match P.funcs[f]? with
  | some fn => if fn.body.isSome && !(fn.name == "runtime.NumGoroutine") then .call f c.args.toList else .oth (.call c)
  | none => .oth (.call c)
 | _ => .oth (.call c)
def tr (P : Program) (op : Op) : IOp := match op with
 | .move x => .mv x
 | .assign x => .mv x
 | .pick c a b => .pick c a b
 | .extract x i => .ext x i
 | .field t x i => match fields P t with
  | some fs => match fs[i]? with
   | some f => match szOf P f.type with
    | some (sz, agg) => .fld x f.offset sz agg
    | none => .oth op
   | none => .oth op
  | none => .oth op
 | .nilCheck x => .nil x
 | .fieldAddr t x i => match fields P t with
  | some fs => match fs[i]? with
   | some f => match szOf P f.type with
    | some (sz + 1, _) => .fad x f.offset
    | _ => .oth op
   | none => .oth op
  | none => .oth op
 | .indexAddr t x i => match isSlice P t with
  | some e => match szOf P e with
   | some (sz, _) => .iad x i sz
   | none => .oth op
  | none => .oth op
 | .slice t x lo hi none => match isSlice P t with
  | some e => match szOf P e with
   | some (sz, _) => .slc x lo hi sz
   | none => .oth op
  | none => .oth op
 | .slice t x lo (some hi) (some mx) => match isSlice P t with
  | some e => match szOf P e with
   | some (sz, _) => .sl3 x lo hi mx sz
   | none => .oth op
  | none => .oth op
 | .binOp bop t x y _ =>
  if (isInt P t).isSome then (if arith bop then .bin bop x y else .oth op)
  else if isBool P t then (match bop with | .eql => .eqb false x y | .neq => .eqb true x y | _ => .oth op)
  else if (isSlice P t).isSome && isNilC y then (match bop with | .eql => .isn false x | .neq => .isn true x | _ => .oth op)
  else .oth op
 | .unOp .not _ x => .not x
 | .convert s d x => match isInt P s, isInt P d with
  | some _, some k => .cvi k x
  | _, _ => .oth op
 | .build t parts => match fields P t, zeroOf P t with
  | some fs, some z => match placesOf P fs parts.toList with
   | some ps => if fs.all (fun f => (szOf P f.type).isSome) then .bld z ps else .oth op
   | none => .oth op
  | _, _ => .oth op
 | .load t x => match szOf P t with
  | some (sz + 1, agg) => .ld x (sz + 1) agg
  | _ => .oth op
 | .alloc t => match zeroOf P t with
  | some z => .alc t z
  | none => .oth op
 | .box t x => .box t x
 | .buildSlice t len parts => match isSlice P t with
  | some e => match szOf P e, zeroOf P e with
   | some (sz, _), some z => if len * sz ≤ 1000 && z.length == sz then .bsl e sz len z parts.toList else .oth op
   | _, _ => .oth op
  | none => .oth op
 | .store t x y => match szOf P t with
  | some (sz, _) => .sto x y sz
  | none => .oth op
 | .call c => trCall P c
 | _ => .oth op
/-! What they ask, and what comes of them. -/
def IsAt (A : Option Addr) : Prop := ∃ b o, A = some ⟨b, o, none⟩
def cutA (A : Option Addr) (c l sz : Nat) : Option Addr := if c = l then A else A.map (·.add (l * sz))
def cellsOf : SV → Option (List SC)
 | .c x => some [x]
 | .a xs => some xs
 | _ => none
def SC.one : SC → Bool
 | .v x => x.oneCell'
 | _ => true
def putAt (cs : List SC) (o : Nat) (ds : List SC) : List SC := cs.take o ++ (ds ++ cs.drop (o + ds.length))
def fillS (t : List SV) : List (Nat × Nat × Operand) → List SC → (List SC → Prop) → Prop
 | [], cs, K => K cs
 | (off, sz, x) :: r, cs, K => match cellsOf (ev t x) with
  | some ds => (ds.all SC.one = true ∧ ds.length = sz ∧ off + ds.length ≤ cs.length) ∧ fillS t r (putAt cs off ds) K
  | none => False
def binK (op : BinOp) (k : IntKind) (a : Int) (k' : IntKind) (b : Int) (K : Value → Prop) : Prop := match op with
 | .shl => 0 ≤ b ∧ b ≤ k.bits ∧ K (.int k (k.wrap (a * 2 ^ b.toNat)))
 | .shr => 0 ≤ b ∧ b ≤ k.bits ∧ K (.int k (a / 2 ^ b.toNat))
 | .add => k = k' ∧ K (.int k (k.wrap (a + b)))
 | .sub => k = k' ∧ K (.int k (k.wrap (a - b)))
 | .mul => k = k' ∧ K (.int k (k.wrap (a * b)))
 | .quo => k = k' ∧ b ≠ 0 ∧ K (.int k (k.wrap (a.tdiv b)))
 | .rem => k = k' ∧ b ≠ 0 ∧ K (.int k (a.tmod b))
 | .and => k = k' ∧ K (.int k (bits .and k a b))
 | .or => k = k' ∧ K (.int k (bits .or k a b))
 | .xor => k = k' ∧ K (.int k (bits .xor k a b))
 | .andNot => False
 | .eql => k = k' ∧ K (.bool (a == b))
 | .neq => k = k' ∧ K (.bool (a != b))
 | .lss => k = k' ∧ K (.bool (decide (a < b)))
 | .leq => k = k' ∧ K (.bool (decide (a ≤ b)))
 | .gtr => k = k' ∧ K (.bool (decide (a > b)))
 | .geq => k = k' ∧ K (.bool (decide (a ≥ b)))
def optI (d : Int) (t : List SV) : Option Operand → Option Int
 | none => some d
 | some x => match ev t x with
  | .c (.v (.int _ j)) => some j
  | _ => none
def vcp (i : IOp) (t : List SV) (K : SV → Prop) : Prop := match i with
 | .mv x => K (ev t x)
 | .pick c a b => match ev t c with
  | .c (.v (.bool q)) => (q = true → K (ev t a)) ∧ (q = false → K (ev t b))
  | _ => False
 | .ext x i => match ev t x with
  | .t xs => match xs[i]? with
   | some (.c y) => K (.c y)
   | some (.a ys) => K (.a ys)
   | none => False
  | _ => False
 | .fld x off sz agg => match ev t x with
  | .a xs => if agg then K (.a ((xs.drop off).take sz)) else match xs[off]? with
   | some y => K (.c y)
   | none => False
  | _ => False
 | .nil x => match ev t x with
  | .c (.p k o) => K (.c (.p k o))
  | .c (.f A o) => K (.c (.f A o))
  | .c (.v (.pointer (some a))) => K (.c (.v (.pointer (some a))))
  | .c (.v (.func (.func f) b c)) => K (.c (.v (.func (.func f) b c)))
  | _ => False
 | .fad x off => match ev t x with
  | .c (.p k o) => K (.c (.p k (o + off)))
  | .c (.f A o) => K (.c (.f A (o + off)))
  | _ => False
 | .iad x i sz => match ev t x with
  | .c (.s k o n c) => match ev t i with
   | .c (.v (.int _ j)) => (0 ≤ j ∧ j < n) ∧ K (.c (.p k (o + j.toNat * sz)))
   | _ => False
  | .c (.v (.slice A n c)) => match ev t i with
   | .c (.v (.int _ j)) => (0 ≤ j ∧ j < n ∧ IsAt A) ∧ K (.c (.f A (j.toNat * sz)))
   | _ => False
  | _ => False
 | .slc x lo hi sz => match ev t x with
  | .c (.v (.slice A n c)) => match optI 0 t lo, optI n t hi with
   | some l, some h => (0 ≤ l ∧ l ≤ h ∧ (hi.isSome = true → h ≤ c)) ∧ K (.c (.v (.slice (cutA A c l.toNat sz) (h.toNat - l.toNat) (c - l.toNat))))
   | _, _ => False
  | _ => False
 | .sl3 x lo hi mx sz => match ev t x with
  | .c (.v (.slice A n c)) => match optI 0 t lo, optI 0 t (some hi), optI 0 t (some mx) with
   | some l, some h, some m => (0 ≤ l ∧ l ≤ h ∧ h ≤ m ∧ m ≤ c) ∧ K (.c (.v (.slice (cutA A m.toNat l.toNat sz) (h.toNat - l.toNat) (m.toNat - l.toNat))))
   | _, _, _ => False
  | _ => False
 | .bin op x y => match ev t x with
  | .c (.v (.int k a)) => match ev t y with
   | .c (.v (.int k' b)) => binK op k a k' b fun r => K (.c (.v r))
   | _ => False
  | _ => False
 | .eqb neg x y => match ev t x with
  | .c (.v (.bool a)) => match ev t y with
   | .c (.v (.bool b)) => K (.c (.v (.bool (if neg then a != b else a == b))))
   | _ => False
  | _ => False
 | .isn neg x => match ev t x with
  | .c (.v (.slice A n c)) => K (.c (.v (.bool (if neg then A.isSome else A.isNone))))
  | _ => False
 | .not x => match ev t x with
  | .c (.v (.bool a)) => K (.c (.v (.bool !a)))
  | _ => False
 | .cvi k x => match ev t x with
  | .c (.v (.int _ n)) => K (.c (.v (.int k (k.wrap n))))
  | _ => False
 | .bld z ps => fillS t ps (z.map .v) fun cs => K (.a cs)
 | .len x => match ev t x with
  | .c (.v (.slice _ n _)) => K (.c (.v (.int .i64 n)))
  | .c (.s _ _ n _) => K (.c (.v (.int .i64 n)))
  | _ => False
 | .mn x y => match ev t x with
  | .c (.v (.int k a)) => match ev t y with
   | .c (.v (.int _ b)) => K (.c (.v (.int k (if b < a then b else a))))
   | _ => False
  | _ => False
 | .mx x y => match ev t x with
  | .c (.v (.int k a)) => match ev t y with
   | .c (.v (.int _ b)) => K (.c (.v (.int k (if b > a then b else a))))
   | _ => False
  | _ => False
 | _ => False
def vcl (x : Operand) (sz : Nat) (agg : Bool) (t : List SV) (L : Ents) (R : Option Addr → Nat → List Value → Prop) (K : SV → Prop) : Prop := match ev t x with
 | .c (.p k o) => match look k L with
  | some (.cells _ cs) => o + sz ≤ cs.length ∧ if agg then K (.a ((cs.drop o).take sz)) else match cs[o]? with
   | some y => K (.c y)
   | none => False
  | _ => False
 | .c (.f A o) => if agg then ∃ vs, vs.length = sz ∧ R A o vs ∧ K (.a (vs.map .v)) else ∃ v, R A o [v] ∧ K (.c (.v v))
 | _ => False
def fillB (t : List SV) (sz : Nat) : List (Nat × Operand) → List SC → (List SC → Prop) → Prop
 | [], cs, K => K cs
 | (i, x) :: r, cs, K => match cellsOf (ev t x) with
  | some ds => (ds.all SC.one = true ∧ ds.length = sz ∧ i * sz + ds.length ≤ cs.length) ∧ fillB t sz r (putAt cs (i * sz) ds) K
  | none => False
def repl (z : List Value) : Nat → List SC
 | 0 => []
 | n + 1 => z.map .v ++ repl z n
def vcm (i : IOp) (d : Option Nat) (s : St) (K : St → Prop) : Prop := match i with
 | .alc e z => K ⟨stO s.t d (.c (.p s.n 0)), (s.n, .cells e (z.map .v)) :: s.L, s.z, s.n + 1⟩
 | .box e x => match cellsOf (ev s.t x) with
  | some cs => cs.all SC.one = true ∧ K ⟨stO s.t d (.c (.p s.n 0)), (s.n, .cells e cs) :: s.L, s.z, s.n + 1⟩
  | none => False
 | .bsl e sz len z ps => fillB s.t sz ps (repl z len) fun cs => K ⟨stO s.t d (.c (.s s.n 0 len len)), (s.n, .cells e cs) :: s.L, s.z, s.n + 1⟩
 | .sto x y sz => match ev s.t x with
  | .c (.p k o) => match look k s.L with
   | some (.cells e cs) => match cellsOf (ev s.t y) with
    | some ds => (ds.all SC.one = true ∧ ds.length = sz ∧ o + ds.length ≤ cs.length) ∧ K ⟨stO s.t d unS, (k, .cells e (putAt cs o ds)) :: del k s.L, s.z, s.n⟩
    | none => False
   | _ => False
  | _ => False
 | .ld x sz agg => vcl x sz agg s.t s.L (RdS s.z s.L) fun v => K ⟨stO s.t d v, s.L, s.z, s.n⟩
 | i => vcp i s.t fun v => K ⟨stO s.t d v, s.L, s.z, s.n⟩
section
variable {P : Program}
theorem szOf_spec {t : TypeId} {sz : Nat} {agg : Bool} (h : szOf P t = some (sz, agg)) : (∀ w, (sizeOf t).run P w = .ok sz w) ∧ (∀ w, (isAgg t).run P w = .ok agg w) ∧ (P.info? t).map (·.size) = some sz ∧ ∃ d, P.underlying t = some d ∧ d.isRow = agg := by
 unfold szOf at h
 split at h
 ·rename_i i d hi hd
  simp only [Option.some.injEq, Prod.mk.injEq] at h
  obtain ⟨rfl, rfl⟩ := h
  refine ⟨fun w => by simp [sizeOf, typeInfo, hi], fun w => ?_, by simp [hi], d, hd, rfl⟩
  unfold isAgg
  rw [Sem.run_bind, run_underlying hd w]
  cases d <;> rfl
 ·cases h
theorem fields_spec {t : TypeId} {fs : Array Field} (h : fields P t = some fs) : P.underlying t = some (.struct fs) := by
 unfold fields at h
 split at h
 ·rename_i hd; injection h with h; rw [hd, h]
 ·cases h
theorem isSlice_spec {t e : TypeId} (h : isSlice P t = some e) : P.underlying t = some (.slice e) := by
 unfold isSlice at h
 split at h
 ·rename_i hd; injection h with h; rw [hd, h]
 ·cases h
theorem isInt_spec {t : TypeId} {k : IntKind} (h : isInt P t = some k) : P.underlying t = some (.int k) := by
 unfold isInt at h
 split at h
 ·rename_i hd; injection h with h; rw [hd, h]
 ·cases h
theorem isBool_spec {t : TypeId} (h : isBool P t = true) : P.underlying t = some .bool := by
 unfold isBool at h
 split at h
 ·rename_i hd; rw [hd]
 ·cases h
theorem zeroOf_spec {t : TypeId} {z : List Value} (h : zeroOf P t = some z) : ∃ zv, (∀ w, (zeroValue t).run P w = .ok zv w) ∧ zv.cells.toList = z := by
 unfold zeroOf at h
 split at h
 ·rename_i i hi
  cases hz : i.zero with
  | none => simp [hz] at h
  | some zv =>
   simp [hz] at h
   exact ⟨zv, fun w => by simp [zeroValue, typeInfo, hi, hz], h⟩
 ·cases h
def Run (P : Program) (a : Act) (o : Oper) (v : Value) : Prop := ∀ w, (execOp a.eval o).run P w = .ok (.value v) w
section
variable {a : Act} {o : Oper} {ρ : Nm} {t : List SV} {K : SV → Prop}
theorem run_v {s : Sem Value} {v : Value} {w w' : World} (h : s.run P w = .ok v w') : (do pure (Next.value (← s)) : Sem Next).run P w = .ok (.value v) w' := by simp [h]
theorem den_a {xs : List SC} {u : Value} (h : (SV.a xs).den ρ u) : ∃ vs, DL (SC.den ρ) xs vs ∧ u = .agg vs.toArray := h
theorem den_t {xs : List TE} {u : Value} (h : (SV.t xs).den ρ u) : ∃ vs, DL (TE.den ρ) xs vs ∧ u = .tuple vs.toArray := h
theorem run_fieldPlace {f : Field} {n : Nat} {agg : Bool} (h : szOf P f.type = some (n + 1, agg)) (b o : Nat) (w : World) : (fieldPlace ⟨b, o, none⟩ f).run P w = .ok ⟨b, o + f.offset, none⟩ w := by
 unfold fieldPlace
 rw [Sem.run_bind, (szOf_spec h).1 w]
 simp only [Result.andThen_ok]
 rw [if_neg (by omega), Sem.run_pure, Addr.add_mid]
theorem run_fieldAt {s : TypeId} {fs : Array Field} {f : Field} {i n : Nat} {agg : Bool} (hs : fields P s = some fs) (hf : fs[i]? = some f) (h : szOf P f.type = some (n + 1, agg)) (b o : Nat) (w : World) :
  (Instr.fieldAt s (.pointer (some ⟨b, o, none⟩)) i).run P w = .ok (.pointer (some ⟨b, o + f.offset, none⟩)) w := by
 unfold Instr.fieldAt
 rw [Sem.run_bind, run_underlying (fields_spec hs)]
 simp only [Result.andThen_ok, hf, Instr.sureAddr, Sem.run_bind, Sem.run_pure, run_fieldPlace h]
theorem run_field {s : TypeId} {fs : Array Field} {f : Field} {i sz : Nat} {agg : Bool} (hs : fields P s = some fs) (hf : fs[i]? = some f) (h : szOf P f.type = some (sz, agg)) (cs : Array Value) (w : World) (v : Value)
  (hv : if agg then v = .agg (cs.extract f.offset (f.offset + sz)) else cs[f.offset]? = some v) : (Instr.field s (.agg cs) i).run P w = .ok v w := by
 unfold Instr.field
 rw [Sem.run_bind, run_underlying (fields_spec hs)]
 simp only [Result.andThen_ok, hf, asAgg, Sem.run_bind, Sem.run_pure, part, (szOf_spec h).2.1 w]
 cases agg with
 | true => simp only [if_true] at hv ⊢; simp [(szOf_spec h).1 w, hv]
 | false => simp only [Bool.false_eq_true, if_false] at hv ⊢; simp [hv]
theorem run_indexAt {s e : TypeId} {sz : Nat} {agg : Bool} (hs : isSlice P s = some e) (h : szOf P e = some (sz, agg)) (b o n c : Nat) (k : IntKind) (j : Int) (h0 : 0 ≤ j) (h1 : j < n) (w : World) :
  (Instr.indexAt s (.slice (some ⟨b, o, none⟩) n c) (.int k j)).run P w = .ok (.pointer (some ⟨b, o + j.toNat * sz, none⟩)) w := by
 unfold Instr.indexAt
 simp only [asIntOf, Sem.run_bind, Sem.run_pure, Result.andThen_ok, run_underlying (isSlice_spec hs), and_self, h0, h1, if_true, (szOf_spec h).1 w, Addr.add_mid]
theorem vcp_fld {s : TypeId} {x : Operand} {i : Nat} {fs : Array Field} {f : Field} {sz : Nat} {agg : Bool} (ho : o.op = .field s x i) (hs : fields P s = some fs) (hf : fs[i]? = some f) (h : szOf P f.type = some (sz, agg))
  (hv : vcp (.fld x f.offset sz agg) t K) (hd : DL (SV.den ρ) t a.tmps.toList) : ∃ sv v, K sv ∧ sv.den ρ v ∧ Run P a o v := by
 simp only [vcp] at hv
 have hx := ev_den hd x
 split at hv
 ·rename_i xs he
  rw [he] at hx
  obtain ⟨vs, h1, h2⟩ := den_a hx
  have hrun : ∀ v, (if agg then v = .agg (vs.toArray.extract f.offset (f.offset + sz)) else vs.toArray[f.offset]? = some v) → Run P a o v := fun v hv w => by
   unfold execOp
   simp only [ho]
   exact run_v (by rw [h2]; exact run_field hs hf h _ w v hv)
  cases agg with
  | true =>
   refine ⟨_, _, hv, ⟨_, (h1.drop f.offset).take sz, rfl⟩, hrun _ ?_⟩
   simp [List.extract_eq_take_drop]
  | false =>
   simp only [Bool.false_eq_true, if_false] at hv
   split at hv
   ·rename_i y hy
    obtain ⟨u, hu, hden⟩ := h1.get hy
    exact ⟨_, _, hv, hden, hrun _ (by simpa using hu)⟩
   ·exact hv.elim
 ·exact hv.elim
theorem vcp_mv {x : Operand} (ho : o.op = .move x ∨ o.op = .assign x) (hv : vcp (.mv x) t K) (hd : DL (SV.den ρ) t a.tmps.toList) : ∃ sv v, K sv ∧ sv.den ρ v ∧ Run P a o v :=
 ⟨_, _, hv, ev_den hd x, fun w => by unfold execOp; rcases ho with ho | ho <;> simp [ho]⟩
theorem vcp_pick {c x y : Operand} (ho : o.op = .pick c x y) (hv : vcp (.pick c x y) t K) (hd : DL (SV.den ρ) t a.tmps.toList) : ∃ sv v, K sv ∧ sv.den ρ v ∧ Run P a o v := by
 simp only [vcp] at hv
 have hc := ev_den hd c
 split at hv
 ·rename_i q he
  rw [he] at hc
  have hc : a.eval c = .bool q := hc
  cases q with
  | true => exact ⟨_, _, hv.1 rfl, ev_den hd x, fun w => by unfold execOp; simp [ho, hc, asBool]⟩
  | false => exact ⟨_, _, hv.2 rfl, ev_den hd y, fun w => by unfold execOp; simp [ho, hc, asBool]⟩
 ·exact hv.elim
theorem vcp_ext {x : Operand} {i : Nat} (ho : o.op = .extract x i) (hv : vcp (.ext x i) t K) (hd : DL (SV.den ρ) t a.tmps.toList) : ∃ sv v, K sv ∧ sv.den ρ v ∧ Run P a o v := by
 simp only [vcp] at hv
 have hx := ev_den hd x
 split at hv
 ·rename_i xs he
  rw [he] at hx
  obtain ⟨vs, h1, h2⟩ := den_t hx
  have hrun : ∀ v, vs[i]? = some v → Run P a o v := fun v hv w => by
   unfold execOp
   simp [ho, h2, Instr.extract, hv]
  split at hv
  ·rename_i y hy
   obtain ⟨u, hu, hden⟩ := h1.get hy
   exact ⟨_, _, hv, hden, hrun _ hu⟩
  ·rename_i y hy
   obtain ⟨u, hu, hden⟩ := h1.get hy
   exact ⟨_, _, hv, hden, hrun _ hu⟩
  ·exact hv.elim
 ·exact hv.elim
theorem vcp_nil {x : Operand} (ho : o.op = .nilCheck x) (hv : vcp (.nil x) t K) (hd : DL (SV.den ρ) t a.tmps.toList) : ∃ sv v, K sv ∧ sv.den ρ v ∧ Run P a o v := by
 simp only [vcp] at hv
 have hx := ev_den hd x
 split at hv
 ·rename_i k j he
  rw [he] at hx
  obtain ⟨b, h1, h2⟩ := hx
  exact ⟨_, _, hv, ⟨b, h1, rfl⟩, fun w => by unfold execOp; simp [ho, h2]⟩
 ·rename_i A j he
  rw [he] at hx
  obtain ⟨b, o', h1, h2⟩ := hx
  exact ⟨_, _, hv, ⟨b, o', h1, rfl⟩, fun w => by unfold execOp; simp [ho, h2]⟩
 ·rename_i p he
  rw [he] at hx
  have hx : a.eval x = .pointer (some p) := hx
  exact ⟨_, _, hv, rfl, fun w => by unfold execOp; simp [ho, hx]⟩
 ·rename_i f b c he
  rw [he] at hx
  have hx : a.eval x = .func (.func f) b c := hx
  exact ⟨_, _, hv, rfl, fun w => by unfold execOp; simp [ho, hx]⟩
 ·exact hv.elim
theorem vcp_fad {s : TypeId} {x : Operand} {i : Nat} {fs : Array Field} {f : Field} {n : Nat} {agg : Bool} (ho : o.op = .fieldAddr s x i) (hs : fields P s = some fs) (hf : fs[i]? = some f) (h : szOf P f.type = some (n + 1, agg))
  (hv : vcp (.fad x f.offset) t K) (hd : DL (SV.den ρ) t a.tmps.toList) : ∃ sv v, K sv ∧ sv.den ρ v ∧ Run P a o v := by
 simp only [vcp] at hv
 have hx := ev_den hd x
 split at hv
 ·rename_i k j he
  rw [he] at hx
  obtain ⟨b, h1, h2⟩ := hx
  exact ⟨_, _, hv, ⟨b, h1, rfl⟩, fun w => by unfold execOp; simp only [ho]; exact run_v (by rw [h2]; exact run_fieldAt hs hf h b j w)⟩
 ·rename_i A j he
  rw [he] at hx
  obtain ⟨b, o', h1, h2⟩ := hx
  exact ⟨_, _, hv, ⟨b, o', h1, by rw [← Nat.add_assoc]⟩, fun w => by unfold execOp; simp only [ho]; exact run_v (by rw [h2]; exact run_fieldAt hs hf h b (o' + j) w)⟩
 ·exact hv.elim
theorem vcp_iad {s e : TypeId} {x i : Operand} {sz : Nat} {agg : Bool} (ho : o.op = .indexAddr s x i) (hs : isSlice P s = some e) (h : szOf P e = some (sz, agg)) (hv : vcp (.iad x i sz) t K) (hd : DL (SV.den ρ) t a.tmps.toList) : ∃ sv v, K sv ∧ sv.den ρ v ∧ Run P a o v := by
 simp only [vcp] at hv
 have hx := ev_den hd x
 have hi := ev_den hd i
 split at hv
 ·rename_i k j n c he
  rw [he] at hx
  obtain ⟨b, h1, h2⟩ := hx
  split at hv
  ·rename_i kk q hq
   rw [hq] at hi
   have hi : a.eval i = .int kk q := hi
   exact ⟨_, _, hv.2, ⟨b, h1, rfl⟩, fun w => by unfold execOp; simp only [ho]; exact run_v (by rw [h2, hi]; exact run_indexAt hs h b j n c kk q hv.1.1 hv.1.2 w)⟩
  ·exact hv.elim
 ·rename_i A n c he
  rw [he] at hx
  have hx : a.eval x = .slice A n c := hx
  split at hv
  ·rename_i kk q hq
   rw [hq] at hi
   have hi : a.eval i = .int kk q := hi
   obtain ⟨⟨h0, h1, b, o', hA⟩, hk⟩ := hv
   subst hA
   exact ⟨_, _, hk, ⟨b, o', rfl, rfl⟩, fun w => by unfold execOp; simp only [ho]; exact run_v (by rw [hx, hi]; exact run_indexAt hs h b o' n c kk q h0 h1 w)⟩
  ·exact hv.elim
 ·exact hv.elim
theorem run_sliceAt {s e : TypeId} {sz : Nat} {agg : Bool} (hs : isSlice P s = some e) (h : szOf P e = some (sz, agg)) (A : Option Addr) (n c : Nat) (lo hi : Option Value) (l h' : Int) (hl : lo = none ∧ l = 0 ∨ ∃ k, lo = some (.int k l)) (hh : hi = none ∧ h' = n ∨ (∃ k, hi = some (.int k h')) ∧ h' ≤ c)
  (h0 : 0 ≤ l) (h1 : l ≤ h') (w : World) : (Instr.sliceAt s (.slice A n c) lo hi none).run P w = .ok (.slice (cutA A c l.toNat sz) (h'.toNat - l.toNat) (c - l.toNat)) w := by
 have hs' : ∀ w, (underlying s).run P w = .ok (.slice e) w := fun w => run_underlying (isSlice_spec hs) w
 have hz := (szOf_spec h).1
 have h2 : 0 ≤ h' := by omega
 have h3 : l ≤ (h'.toNat : Int) := by omega
 obtain ⟨m, rfl⟩ := Int.eq_ofNat_of_zero_le h2
 obtain ⟨q, rfl⟩ := Int.eq_ofNat_of_zero_le h0
 have h4 : q ≤ m := by omega
 rcases hl with ⟨rfl, hl⟩ | ⟨k, rfl⟩ <;> rcases hh with ⟨rfl, hh⟩ | ⟨⟨k', rfl⟩, hc⟩
 ·obtain rfl : m = n := by omega
  obtain rfl : q = 0 := by omega
  simp [Instr.sliceAt, Instr.slice, Instr.sliceBounds, hs', hz, cutA]
 ·obtain rfl : q = 0 := by omega
  have hc' : m ≤ c := by omega
  simp [Instr.sliceAt, Instr.slice, Instr.sliceBounds, Instr.sliceBound, asIntOf, hs', hz, cutA, hc']
 ·obtain rfl : m = n := by omega
  simp [Instr.sliceAt, Instr.slice, Instr.sliceBounds, Instr.sliceBound, asIntOf, hs', hz, cutA, h4]
 ·have hc' : m ≤ c := by omega
  simp [Instr.sliceAt, Instr.slice, Instr.sliceBounds, Instr.sliceBound, asIntOf, hs', hz, cutA, h4, hc']
theorem optI_den {d : Int} {x : Option Operand} {j : Int} (h : optI d t x = some j) (hd : DL (SV.den ρ) t a.tmps.toList) : x.map a.eval = none ∧ j = d ∧ x = none ∨ (∃ k, x.map a.eval = some (.int k j)) ∧ x.isSome = true := by
 unfold optI at h
 cases x with
 | none => simp at h; exact .inl ⟨rfl, h.symm, rfl⟩
 | some x =>
  have hx := ev_den hd x
  simp only at h
  split at h
  ·rename_i k j' he
   injection h with h
   rw [he] at hx
   have hx : a.eval x = .int k j' := hx
   exact .inr ⟨⟨k, by simp [hx, h]⟩, rfl⟩
  ·cases h
theorem vcp_slc {s e : TypeId} {x : Operand} {lo hi : Option Operand} {sz : Nat} {agg : Bool} (ho : o.op = .slice s x lo hi none) (hs : isSlice P s = some e) (h : szOf P e = some (sz, agg)) (hv : vcp (.slc x lo hi sz) t K) (hd : DL (SV.den ρ) t a.tmps.toList) : ∃ sv v, K sv ∧ sv.den ρ v ∧ Run P a o v := by
 simp only [vcp] at hv
 have hx := ev_den hd x
 split at hv
 ·rename_i A n c he
  rw [he] at hx
  have hx : a.eval x = .slice A n c := hx
  split at hv
  ·rename_i l h' hl hh
   obtain ⟨⟨h0, h1, h2⟩, hk⟩ := hv
   refine ⟨_, _, hk, rfl, fun w => ?_⟩
   unfold execOp
   simp only [ho]
   refine run_v ?_
   rw [hx]
   refine run_sliceAt hs h A n c _ _ l h' ?_ ?_ h0 h1 w
   ·rcases optI_den hl hd with ⟨e1, e2, _⟩ | ⟨e1, _⟩
    ·exact .inl ⟨e1, e2⟩
    ·exact .inr e1
   ·rcases optI_den hh hd with ⟨e1, e2, _⟩ | ⟨e1, e2⟩
    ·exact .inl ⟨e1, e2⟩
    ·exact .inr ⟨e1, h2 e2⟩
  ·exact hv.elim
 ·exact hv.elim
theorem run_sliceAt3 {s e : TypeId} {sz : Nat} {agg : Bool} (hs : isSlice P s = some e) (h : szOf P e = some (sz, agg)) (A : Option Addr) (n c : Nat) (lo : Option Value) (k2 k3 : IntKind) (l h' m : Int) (hl : lo = none ∧ l = 0 ∨ ∃ k, lo = some (.int k l))
  (h0 : 0 ≤ l) (h1 : l ≤ h') (h2 : h' ≤ m) (h3 : m ≤ c) (w : World) : (Instr.sliceAt s (.slice A n c) lo (some (.int k2 h')) (some (.int k3 m))).run P w = .ok (.slice (cutA A m.toNat l.toNat sz) (h'.toNat - l.toNat) (m.toNat - l.toNat)) w := by
 have hs' : ∀ w, (underlying s).run P w = .ok (.slice e) w := fun w => run_underlying (isSlice_spec hs) w
 have hz := (szOf_spec h).1
 obtain ⟨q, rfl⟩ := Int.eq_ofNat_of_zero_le h0
 obtain ⟨x, rfl⟩ := Int.eq_ofNat_of_zero_le (show 0 ≤ h' by omega)
 obtain ⟨y, rfl⟩ := Int.eq_ofNat_of_zero_le (show 0 ≤ m by omega)
 have g1 : q ≤ x := by omega
 have g2 : x ≤ y := by omega
 have g3 : y ≤ c := by omega
 rcases hl with ⟨rfl, hl⟩ | ⟨k, rfl⟩
 ·obtain rfl : q = 0 := by omega
  simp [Instr.sliceAt, Instr.slice, Instr.sliceBounds, Instr.sliceBound, asIntOf, hs', hz, cutA, g2, g3]
 ·simp [Instr.sliceAt, Instr.slice, Instr.sliceBounds, Instr.sliceBound, asIntOf, hs', hz, cutA, g1, g2, g3]
theorem vcp_sl3 {s e : TypeId} {x hi mx : Operand} {lo : Option Operand} {sz : Nat} {agg : Bool} (ho : o.op = .slice s x lo (some hi) (some mx)) (hs : isSlice P s = some e) (h : szOf P e = some (sz, agg)) (hv : vcp (.sl3 x lo hi mx sz) t K) (hd : DL (SV.den ρ) t a.tmps.toList) : ∃ sv v, K sv ∧ sv.den ρ v ∧ Run P a o v := by
 simp only [vcp] at hv
 have hx := ev_den hd x
 split at hv
 ·rename_i A n c he
  rw [he] at hx
  have hx : a.eval x = .slice A n c := hx
  split at hv
  ·rename_i l h' m hl hh hm
   obtain ⟨⟨h0, h1, h2, h3⟩, hk⟩ := hv
   refine ⟨_, _, hk, rfl, fun w => ?_⟩
   unfold execOp
   simp only [ho]
   refine run_v ?_
   rw [hx]
   rcases optI_den hh hd with ⟨_, _, e1⟩ | ⟨⟨k2, e2⟩, _⟩
   ·cases e1
   ·rcases optI_den hm hd with ⟨_, _, e1⟩ | ⟨⟨k3, e3⟩, _⟩
    ·cases e1
    ·rw [e2, e3]
     refine run_sliceAt3 hs h A n c _ k2 k3 l h' m ?_ h0 h1 h2 h3 w
     rcases optI_den hl hd with ⟨e1, e2, _⟩ | ⟨e1, _⟩
     ·exact .inl ⟨e1, e2⟩
     ·exact .inr e1
  ·exact hv.elim
 ·exact hv.elim
theorem run_eqGuard_int (op : BinOp) (ty : TypeId) (x y : Operand) (k k' : IntKind) (p q : Int) (w : World) : (eqGuard op ty x y (.int k p) (.int k' q)).run P w = .ok () w := by
 unfold eqGuard; cases op <;> simp
theorem binK_run {op : BinOp} {k k' : IntKind} {p q : Int} {Kv : Value → Prop} (hv : binK op k p k' q Kv) (ty : TypeId) : ∃ r, Kv r ∧ ∀ w, (binOp op ty (.int k p) (.int k' q)).run P w = .ok r w := by
 cases op <;> simp only [binK] at hv
 case shl => obtain ⟨h0, h1, hk⟩ := hv; exact ⟨_, hk, fun w => by show (Op.shift .shl k p k' q).run P w = _; rw [shift_shl k k' p q h0 h1]; rfl⟩
 case shr => obtain ⟨h0, h1, hk⟩ := hv; exact ⟨_, hk, fun w => by show (Op.shift .shr k p k' q).run P w = _; rw [shift_shr k k' p q h0 h1]; rfl⟩
 case quo => obtain ⟨rfl, h1, hk⟩ := hv; exact ⟨_, hk, fun w => by simp [binOp, Op.intDiv, h1]⟩
 case rem => obtain ⟨rfl, h1, hk⟩ := hv; exact ⟨_, hk, fun w => by simp [binOp, Op.intDiv, h1]⟩
 all_goals (obtain ⟨rfl, hk⟩ := hv; exact ⟨_, hk, fun w => by simp [binOp, Op.intArith, Op.intCmp, intBits_and, intBits_or, intBits_xor]⟩)
theorem vcp_bin {op : BinOp} {ty ty' : TypeId} {x y : Operand} (ho : o.op = .binOp op ty x y ty') (hv : vcp (.bin op x y) t K) (hd : DL (SV.den ρ) t a.tmps.toList) : ∃ sv v, K sv ∧ sv.den ρ v ∧ Run P a o v := by
 simp only [vcp] at hv
 have hx := ev_den hd x
 have hy := ev_den hd y
 split at hv
 ·rename_i k p he
  rw [he] at hx
  have hx : a.eval x = .int k p := hx
  split at hv
  ·rename_i k' q he'
   rw [he'] at hy
   have hy : a.eval y = .int k' q := hy
   obtain ⟨r, hr, hrun⟩ := binK_run (P := P) hv ty
   exact ⟨_, _, hr, rfl, fun w => by unfold execOp; simp only [ho]; exact run_v (by rw [hx, hy, Sem.run_bind, run_eqGuard_int, Result.andThen_ok]; exact hrun w)⟩
  ·exact hv.elim
 ·exact hv.elim
theorem run_equal_bool {ty : TypeId} (h : P.underlying ty = some .bool) (p q : Bool) (w : World) : (Op.equal ty (.bool p) (.bool q)).run P w = .ok (p == q) w := by
 have : ∀ d, (Op.equalIn (d + 1) ty (.bool p) (.bool q)).run P w = .ok (p == q) w := fun d => by
  unfold Op.equalIn
  rw [Sem.run_bind, run_underlying h]
  rfl
 exact this 9999
theorem run_equal_nil {ty e : TypeId} (h : P.underlying ty = some (.slice e)) (A : Option Addr) (n c n' c' : Nat) (w : World) : (Op.equal ty (.slice A n c) (.slice none n' c')).run P w = .ok A.isNone w := by
 have : ∀ d, (Op.equalIn (d + 1) ty (.slice A n c) (.slice none n' c')).run P w = .ok A.isNone w := fun d => by
  unfold Op.equalIn
  rw [Sem.run_bind, run_underlying h]
  cases A <;> rfl
 exact this 9999
theorem vcp_eqb {neg : Bool} {ty ty' : TypeId} {x y : Operand} (ho : o.op = .binOp (if neg then .neq else .eql) ty x y ty') (ht : isBool P ty = true) (hv : vcp (.eqb neg x y) t K) (hd : DL (SV.den ρ) t a.tmps.toList) : ∃ sv v, K sv ∧ sv.den ρ v ∧ Run P a o v := by
 simp only [vcp] at hv
 have hx := ev_den hd x
 have hy := ev_den hd y
 split at hv
 ·rename_i p he
  rw [he] at hx
  have hx : a.eval x = .bool p := hx
  split at hv
  ·rename_i q he'
   rw [he'] at hy
   have hy : a.eval y = .bool q := hy
   refine ⟨_, _, hv, rfl, fun w => ?_⟩
   unfold execOp
   simp only [ho]
   refine run_v ?_
   rw [hx, hy]
   have hb : ∀ w, (binOp .eql ty (.bool p) (.bool q)).run P w = .ok (.bool (p == q)) w := fun w => by
    show ((do pure (.bool (← Op.equal ty (.bool p) (.bool q)))) : Sem Value).run P w = _
    rw [Sem.run_bind, run_equal_bool (isBool_spec ht)]; rfl
   have hb' : ∀ w, (binOp .neq ty (.bool p) (.bool q)).run P w = .ok (.bool (p != q)) w := fun w => by
    show ((do pure (.bool (!(← Op.equal ty (.bool p) (.bool q))))) : Sem Value).run P w = _
    rw [Sem.run_bind, run_equal_bool (isBool_spec ht)]; rfl
   cases neg
   ·show ((do eqGuard .eql ty x y (.bool p) (.bool q); binOp .eql ty (.bool p) (.bool q)) : Sem Value).run P w = _
    rw [Sem.run_bind, show (eqGuard .eql ty x y (.bool p) (.bool q)).run P w = .ok () w from rfl, Result.andThen_ok, hb]; rfl
   ·show ((do eqGuard .neq ty x y (.bool p) (.bool q); binOp .neq ty (.bool p) (.bool q)) : Sem Value).run P w = _
    rw [Sem.run_bind, show (eqGuard .neq ty x y (.bool p) (.bool q)).run P w = .ok () w from rfl, Result.andThen_ok, hb']; rfl
  ·exact hv.elim
 ·exact hv.elim
theorem isNilC_spec {y : Operand} (h : isNilC y = true) : ∃ n c, a.eval y = .slice none n c := by
 unfold isNilC at h
 split at h
 ·rename_i n c; exact ⟨n, c, rfl⟩
 ·cases h
theorem vcp_isn {neg : Bool} {ty ty' e : TypeId} {x y : Operand} (ho : o.op = .binOp (if neg then .neq else .eql) ty x y ty') (ht : isSlice P ty = some e) (hy : isNilC y = true) (hv : vcp (.isn neg x) t K) (hd : DL (SV.den ρ) t a.tmps.toList) : ∃ sv v, K sv ∧ sv.den ρ v ∧ Run P a o v := by
 simp only [vcp] at hv
 have hx := ev_den hd x
 obtain ⟨n', c', hy⟩ := isNilC_spec (a := a) hy
 split at hv
 ·rename_i A n c he
  rw [he] at hx
  have hx : a.eval x = .slice A n c := hx
  refine ⟨_, _, hv, rfl, fun w => ?_⟩
  unfold execOp
  simp only [ho]
  refine run_v ?_
  rw [hx, hy]
  have hb : ∀ w, (binOp .eql ty (.slice A n c) (.slice none n' c')).run P w = .ok (.bool A.isNone) w := fun w => by
   show ((do pure (.bool (← Op.equal ty (.slice A n c) (.slice none n' c')))) : Sem Value).run P w = _
   rw [Sem.run_bind, run_equal_nil (isSlice_spec ht)]; rfl
  have hb' : ∀ w, (binOp .neq ty (.slice A n c) (.slice none n' c')).run P w = .ok (.bool A.isSome) w := fun w => by
   show ((do pure (.bool (!(← Op.equal ty (.slice A n c) (.slice none n' c'))))) : Sem Value).run P w = _
   rw [Sem.run_bind, run_equal_nil (isSlice_spec ht)]; cases A <;> rfl
  cases neg
  ·show ((do eqGuard .eql ty x y (.slice A n c) (.slice none n' c'); binOp .eql ty (.slice A n c) (.slice none n' c')) : Sem Value).run P w = _
   rw [Sem.run_bind, show (eqGuard .eql ty x y (.slice A n c) (.slice none n' c')).run P w = .ok () w from rfl, Result.andThen_ok, hb]; rfl
  ·show ((do eqGuard .neq ty x y (.slice A n c) (.slice none n' c'); binOp .neq ty (.slice A n c) (.slice none n' c')) : Sem Value).run P w = _
   rw [Sem.run_bind, show (eqGuard .neq ty x y (.slice A n c) (.slice none n' c')).run P w = .ok () w from rfl, Result.andThen_ok, hb']; rfl
 ·exact hv.elim
theorem vcp_not {ty : TypeId} {x : Operand} (ho : o.op = .unOp .not ty x) (hv : vcp (.not x) t K) (hd : DL (SV.den ρ) t a.tmps.toList) : ∃ sv v, K sv ∧ sv.den ρ v ∧ Run P a o v := by
 simp only [vcp] at hv
 have hx := ev_den hd x
 split at hv
 ·rename_i p he
  rw [he] at hx
  have hx : a.eval x = .bool p := hx
  exact ⟨_, _, hv, rfl, fun w => by unfold execOp; simp [ho, hx, Op.unary]⟩
 ·exact hv.elim
theorem vcp_cvi {s d : TypeId} {k k' : IntKind} {x : Operand} (ho : o.op = .convert s d x) (hs : isInt P s = some k') (hk : isInt P d = some k) (hv : vcp (.cvi k x) t K) (hd : DL (SV.den ρ) t a.tmps.toList) : ∃ sv v, K sv ∧ sv.den ρ v ∧ Run P a o v := by
 simp only [vcp] at hv
 have hx := ev_den hd x
 split at hv
 ·rename_i kk p he
  rw [he] at hx
  have hx : a.eval x = .int kk p := hx
  exact ⟨_, _, hv, rfl, fun w => by unfold execOp; simp [ho, hx, convert, run_underlying (isInt_spec hs), run_underlying (isInt_spec hk), Conv.intToInt]⟩
 ·exact hv.elim
theorem vcp_len {c : Call} {ty : TypeId} {x : Operand} (ho : o.op = .call c) (hc : c.callee = .builtin .len) (ha : c.args.toList = [x]) (hat : c.argTypes.toList = [ty]) (hs : (isSlice P ty).isSome = true) (hv : vcp (.len x) t K) (hd : DL (SV.den ρ) t a.tmps.toList) : ∃ sv v, K sv ∧ sv.den ρ v ∧ Run P a o v := by
 obtain ⟨e, he'⟩ := Option.isSome_iff_exists.1 hs
 have ha' : c.args = #[x] := by rw [← ha]
 have hat' : c.argTypes = #[ty] := by rw [← hat]
 have hrun : ∀ A n cc, a.eval x = .slice A n cc → Run P a o (.int .i64 n) := fun A n cc h w => by
  unfold execOp
  simp [ho, resolve, hc, ha', hat', invoke, builtin, h, Builtin.len_, run_underlying (isSlice_spec he'), goInt]
 simp only [vcp] at hv
 have hx := ev_den hd x
 split at hv
 ·rename_i A n cc he
  rw [he] at hx
  exact ⟨_, _, hv, rfl, hrun _ _ _ hx⟩
 ·rename_i k j n cc he
  rw [he] at hx
  obtain ⟨b, h1, h2⟩ := hx
  exact ⟨_, _, hv, rfl, hrun _ _ _ h2⟩
 ·exact hv.elim
theorem vcp_mn {c : Call} {x y : Operand} (ho : o.op = .call c) (hc : c.callee = .builtin .min) (ha : c.args.toList = [x, y]) (hv : vcp (.mn x y) t K) (hd : DL (SV.den ρ) t a.tmps.toList) : ∃ sv v, K sv ∧ sv.den ρ v ∧ Run P a o v := by
 have ha' : c.args = #[x, y] := by rw [← ha]
 simp only [vcp] at hv
 have hx := ev_den hd x
 have hy := ev_den hd y
 split at hv
 ·rename_i k p he
  rw [he] at hx
  have hx : a.eval x = .int k p := hx
  split at hv
  ·rename_i k' q he'
   rw [he'] at hy
   have hy : a.eval y = .int k' q := hy
   refine ⟨_, _, hv, rfl, fun w => ?_⟩
   unfold execOp
   simp [ho, resolve, hc, ha', invoke, builtin, hx, hy, Builtin.min_, Builtin.min2]
  ·exact hv.elim
 ·exact hv.elim
theorem vcp_mx {c : Call} {x y : Operand} (ho : o.op = .call c) (hc : c.callee = .builtin .max) (ha : c.args.toList = [x, y]) (hv : vcp (.mx x y) t K) (hd : DL (SV.den ρ) t a.tmps.toList) : ∃ sv v, K sv ∧ sv.den ρ v ∧ Run P a o v := by
 have ha' : c.args = #[x, y] := by rw [← ha]
 simp only [vcp] at hv
 have hx := ev_den hd x
 have hy := ev_den hd y
 split at hv
 ·rename_i k p he
  rw [he] at hx
  have hx : a.eval x = .int k p := hx
  split at hv
  ·rename_i k' q he'
   rw [he'] at hy
   have hy : a.eval y = .int k' q := hy
   refine ⟨_, _, hv, rfl, fun w => ?_⟩
   unfold execOp
   simp [ho, resolve, hc, ha', invoke, builtin, hx, hy, Builtin.max_, Builtin.max2]
  ·exact hv.elim
 ·exact hv.elim
end
end
end Go.Proofs.YtllafcmkppmdgaaGreat
