/- How values lie in memory: what is read, with the blocks that it is read from; rows that a call makes itself. -/
import Derived.Test.YtohmnedenhngpaaDoorProg
import Derived.Below
import Derived.WalkKit
import Derived.KernelRfl
import Derived.Laws.AppendOwn
import Derived.Laws.OwnMore
import Derived.Maps.AppendAt
import Derived.ArgAppend
import Derived.Deep.QuietTactic
import Derived.BigQuiet
import Derived.IntWalk
import Derived.Laws.Rows
set_option linter.unusedVariables false
set_option linter.unusedSimpArgs false
namespace Go.Proofs.YtohmnedenhngpaaDoor
open Go.RowKit
/-- A fact that the walk doesn't look into. -/
structure As (p : Prop) : Prop where mk :: (out : p)
/-- P holds in W, and wherever W's blocks of ok are the same. -/
def Foot (P : World → Prop) (W : World) (ok : Nat → Prop) : Prop := ∀ W' : World, (∀ k, ok k → k < W.heap.size → W'.heap[k]? = W.heap[k]?) → P W'
namespace Foot
variable {P Q : World → Prop} {W W1 : World} {ok ok' : Nat → Prop}
theorem lt {k : Nat} (h : W1.heap[k]? = W.heap[k]?) (hlt : k < W.heap.size) : k < W1.heap.size := by
  rw [Array.getElem?_eq_getElem hlt] at h
  exact (Array.getElem?_eq_some_iff.1 h).1
theorem now (h : Foot P W ok) : P W := h W (fun _ _ _ => rfl)
theorem mono (h : Foot P W ok) (hok : ∀ k, ok k → ok' k) : Foot P W ok' := fun W' hW => h W' (fun k hk hlt => hW k (hok k hk) hlt)
theorem bound (h : Foot P W ok) : Foot P W (fun k => ok k ∧ k < W.heap.size) := fun W' hW => h W' (fun k hk hlt => hW k ⟨hk, hlt⟩ hlt)
theorem step (h : Foot P W ok) (hm : ∀ k, ok k → k < W.heap.size → W1.heap[k]? = W.heap[k]?) : Foot P W1 ok := fun W' hW => h W' (fun k hk hlt => (hW k hk (lt (hm k hk hlt) hlt)).trans (hm k hk hlt))
theorem imp (h : Foot P W ok) (hi : ∀ W', P W' → Q W') : Foot Q W ok := fun W' hW => hi W' (h W' hW)
theorem and (h : Foot P W ok) (k : Foot Q W ok) : Foot (fun W => P W ∧ Q W) W ok := fun W' hW => ⟨h W' hW, k W' hW⟩
theorem below (h : Foot P W ok) (hb : Below W.heap.size W W1) : Foot P W1 ok := h.step (fun k _ hlt => hb.block k hlt)
theorem of (h : P W) (hm : ∀ W', (∀ k, ok k → k < W.heap.size → W'.heap[k]? = W.heap[k]?) → P W → P W') : Foot P W ok := fun W' hW => hm W' hW h
end Foot
theorem add_at (b o j : Nat) : (⟨b, o, none⟩ : Addr).add j = ⟨b, o + j, none⟩ := by unfold Addr.add; split <;> simp_all
/-- The cells cs, from the place A on. -/
def Rd (W : World) (A : Option Addr) (cs : List Value) : Prop := cs ≠ [] → ∃ b o, A = some ⟨b, o, none⟩ ∧ ∀ i u, cs[i]? = some u → W.cell? ⟨b, o + i, none⟩ = some u
theorem cell_lt {W : World} {b o : Nat} {u : Value} (h : W.cell? ⟨b, o, none⟩ = some u) : b < W.heap.size := World.block_lt_of_cell? W ⟨b, o, none⟩ h
theorem cell_same {W W' : World} {b o : Nat} (h : W'.heap[b]? = W.heap[b]?) : W'.cell? ⟨b, o, none⟩ = W.cell? ⟨b, o, none⟩ := by simp only [World.cell?, h]
theorem Rd.below {W W1 : World} {A : Option Addr} {cs : List Value} (h : Rd W A cs) (hb : Below W.heap.size W W1) : Rd W1 A cs := fun hn => by
  obtain ⟨b, o, e, hc⟩ := h hn
  refine ⟨b, o, e, fun i u hu => ?_⟩
  have := hc i u hu
  rw [cell_same (hb.block b (cell_lt this))]; exact this
theorem Rd.foot {W : World} {A : Option Addr} {cs : List Value} {ok : Nat → Prop} (h : Rd W A cs) (hok : ∀ b o, A = some ⟨b, o, none⟩ → cs ≠ [] → ok b) : Foot (fun W => Rd W A cs) W ok := fun W' hW hn => by
  obtain ⟨b, o, e, hc⟩ := h hn
  refine ⟨b, o, e, fun i u hu => ?_⟩
  have := hc i u hu
  rw [cell_same (hW b (hok b o e hn) (cell_lt this))]; exact this
theorem Rd.nil (W : World) (A : Option Addr) : Rd W A [] := fun h => absurd rfl h
/-- Kinds of values: how many cells, and what the cells say. -/
structure Rep (α : Type) where
  sz : Nat
  K : World → α → List Value → Prop
  len : ∀ {W x cs}, K W x cs → cs.length = sz
  one : ∀ {W x cs}, K W x cs → ∀ u ∈ cs, u.oneCell' = true
  below : ∀ {W W1 : World} {x cs}, K W x cs → Below W.heap.size W W1 → K W1 x cs
/-- A list's elements, one behind the other. -/
def Els {α : Type} (d : Rep α) (W : World) : List α → List Value → Prop
  | [], cs => cs = []
  | x :: xs, cs => ∃ c r, cs = c ++ r ∧ d.K W x c ∧ Els d W xs r
/-- A slice that is read. -/
def Sl {α : Type} (d : Rep α) (W : World) (xs : List α) (v : Value) : Prop := ∃ A c cs, v = .slice A xs.length c ∧ xs.length ≤ c ∧ Els d W xs cs ∧ Rd W A cs
section
variable {α : Type} {d : Rep α} {W W1 : World} {xs ys : List α} {cs ds : List Value} {x : α} {v : Value} {ok : Nat → Prop}
theorem Els.below (h : Els d W xs cs) (hb : Below W.heap.size W W1) : Els d W1 xs cs := by
  induction xs generalizing cs with
  | nil => exact h
  | cons x xs ih => obtain ⟨c, r, rfl, h1, h2⟩ := h; exact ⟨c, r, rfl, d.below h1 hb, ih h2⟩
theorem Els.length (h : Els d W xs cs) : cs.length = xs.length * d.sz := by
  induction xs generalizing cs with
  | nil => rw [show cs = [] from h]; simp
  | cons x xs ih =>
    obtain ⟨c, r, rfl, h1, h2⟩ := h
    rw [List.length_append, d.len h1, ih h2, List.length_cons, Nat.succ_mul]; omega
theorem Els.one (h : Els d W xs cs) : ∀ u ∈ cs, u.oneCell' = true := by
  induction xs generalizing cs with
  | nil => rw [show cs = [] from h]; simp
  | cons x xs ih =>
    obtain ⟨c, r, rfl, h1, h2⟩ := h
    intro u hu
    rcases List.mem_append.mp hu with hu | hu
    · exact d.one h1 u hu
    · exact ih h2 u hu
theorem Els.append (h : Els d W xs cs) (k : Els d W ys ds) : Els d W (xs ++ ys) (cs ++ ds) := by
  induction xs generalizing cs with
  | nil => rw [show cs = [] from h]; exact k
  | cons x xs ih => obtain ⟨c, r, rfl, h1, h2⟩ := h; exact ⟨c, r ++ ds, by simp, h1, ih h2⟩
theorem Els.single (h : d.K W x cs) : Els d W [x] cs := ⟨cs, [], by simp, h, rfl⟩
theorem Els.get (h : Els d W xs cs) (j : Nat) (hj : j < xs.length) : ∃ c, d.K W xs[j] c ∧ ∀ i u, c[i]? = some u → cs[j * d.sz + i]? = some u := by
  induction xs generalizing cs j with
  | nil => simp at hj
  | cons x xs ih =>
    obtain ⟨c, r, rfl, h1, h2⟩ := h
    have hl := d.len h1
    cases j with
    | zero =>
      refine ⟨c, h1, fun i u hu => ?_⟩
      have hi := (List.getElem?_eq_some_iff.mp hu).1
      rw [Nat.zero_mul, Nat.zero_add, List.getElem?_append_left hi]; exact hu
    | succ j =>
      obtain ⟨c', k1, k2⟩ := ih h2 j (by simpa using hj)
      refine ⟨c', k1, fun i u hu => ?_⟩
      rw [Nat.succ_mul, List.getElem?_append_right (by omega), show j * d.sz + d.sz + i - c.length = j * d.sz + i by omega]
      exact k2 i u hu
theorem Els.drop (h : Els d W xs cs) (k : Nat) : Els d W (xs.drop k) (cs.drop (k * d.sz)) := by
  induction k generalizing xs cs with
  | zero => simpa using h
  | succ k ih =>
    cases xs with
    | nil => rw [show cs = [] from h]; simp [Els]
    | cons x xs =>
      obtain ⟨c, r, rfl, h1, h2⟩ := h
      have := ih h2
      rw [List.drop_succ_cons, Nat.succ_mul, Nat.add_comm, ← List.drop_drop, ← d.len h1, List.drop_left]
      rw [d.len h1]; exact this
theorem Els.take (h : Els d W xs cs) (k : Nat) : Els d W (xs.take k) (cs.take (k * d.sz)) := by
  induction k generalizing xs cs with
  | zero => simp [Els]
  | succ k ih =>
    cases xs with
    | nil => rw [show cs = [] from h]; simp [Els]
    | cons x xs =>
      obtain ⟨c, r, rfl, h1, h2⟩ := h
      have hl := d.len h1
      rw [List.take_succ_cons]
      refine ⟨c, r.take (k * d.sz), ?_, h1, ih h2⟩
      rw [List.take_append, List.take_of_length_le (by rw [Nat.succ_mul]; omega), hl, show (k + 1) * d.sz - d.sz = k * d.sz by rw [Nat.succ_mul]; omega]
theorem Sl.below (h : Sl d W xs v) (hb : Below W.heap.size W W1) : Sl d W1 xs v := by
  obtain ⟨A, c, cs, rfl, hc, he, hr⟩ := h
  exact ⟨A, c, cs, rfl, hc, he.below hb, hr.below hb⟩
theorem Sl.nil (W : World) : Sl d W [] (.slice none 0 0) := ⟨none, 0, [], rfl, Nat.le_refl _, rfl, Rd.nil _ _⟩
theorem Sl.one (h : Sl d W xs v) : v.oneCell' = true := by obtain ⟨A, c, cs, rfl, _⟩ := h; rfl
end
/-- A slice as an element. -/
def Rep.slice {α : Type} (d : Rep α) : Rep (List α) where
  sz := 1
  K := fun W xs cs => ∃ v, cs = [v] ∧ Sl d W xs v
  len := by rintro W x cs ⟨v, rfl, _⟩; rfl
  one := by rintro W x cs ⟨v, rfl, h⟩ u hu; rw [List.mem_singleton.mp hu]; exact h.one
  below := by rintro W W1 x cs ⟨v, rfl, h⟩ hb; exact ⟨v, rfl, h.below hb⟩
/-- Bytes. -/
def bRep : Rep Int where
  sz := 1
  K := fun _ x cs => cs = [.int .u8 x] ∧ 0 ≤ x ∧ x ≤ 255
  len := by rintro W x cs ⟨rfl, _⟩; rfl
  one := by rintro W x cs ⟨rfl, _⟩ u hu; rw [List.mem_singleton.mp hu]; rfl
  below := fun h _ => h
abbrev By := Sl bRep
theorem Els.bytes {W : World} {l : List Int} {cs : List Value} (h : Els bRep W l cs) : cs = l.map (Value.int .u8) ∧ ∀ x ∈ l, 0 ≤ x ∧ x ≤ 255 := by
  induction l generalizing cs with
  | nil => rw [show cs = [] from h]; simp
  | cons x l ih =>
    obtain ⟨c, r, rfl, ⟨rfl, hx⟩, h2⟩ := h
    obtain ⟨rfl, k⟩ := ih h2
    exact ⟨rfl, fun y hy => by rcases List.mem_cons.mp hy with rfl | hy; exact hx; exact k y hy⟩
theorem Els.of_bytes {W : World} {l : List Int} (h : ∀ x ∈ l, 0 ≤ x ∧ x ≤ 255) : Els bRep W l (l.map (Value.int .u8)) := by
  induction l with
  | nil => rfl
  | cons x l ih => exact ⟨[.int .u8 x], _, rfl, ⟨rfl, h x List.mem_cons_self⟩, ih (fun y hy => h y (List.mem_cons_of_mem _ hy))⟩
theorem By.form {W : World} {l : List Int} {v : Value} (h : By W l v) : ∃ A c, v = .slice A l.length c ∧ l.length ≤ c ∧ (∀ x ∈ l, 0 ≤ x ∧ x ≤ 255) ∧ Rd W A (l.map (Value.int .u8)) := by
  obtain ⟨A, c, cs, rfl, hc, he, hr⟩ := h
  obtain ⟨rfl, hb⟩ := he.bytes
  exact ⟨A, c, rfl, hc, hb, hr⟩
theorem By.mk {W : World} {l : List Int} {A : Option Addr} {c : Nat} (hc : l.length ≤ c) (hb : ∀ x ∈ l, 0 ≤ x ∧ x ≤ 255) (hr : Rd W A (l.map (Value.int .u8))) : By W l (.slice A l.length c) := ⟨A, c, _, rfl, hc, Els.of_bytes hb, hr⟩
/-- The facts that the walk needs of a world behind a call. -/
theorem bcell {W w1 : World} (hb : Below W.heap.size W w1) : (∀ b o, b < W.heap.size → w1.cell? ⟨b, o, none⟩ = W.cell? ⟨b, o, none⟩) ∧ (∀ b o, b < W.heap.size → w1.frozen? ⟨b, o, none⟩ = W.frozen? ⟨b, o, none⟩) :=
  ⟨fun b o h => hb.cell (p := ⟨b, o, none⟩) h, fun b o h => hb.frozen (p := ⟨b, o, none⟩) h⟩
end Go.Proofs.YtohmnedenhngpaaDoor
