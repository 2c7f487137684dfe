/- The table of the words of what happens, and the numbers' table: what the row's list gives. -/
import Derived.Test.YtohmnedenhngpaaDoorRows
import Derived.Test.YtohmnedenhngpaaDoorMem
import Derived.Lib.LaidTab
import Derived.LaidSub
import Derived.SliceStrings
import Derived.Sort.Grow
import Derived.Lib.ItoaNum
import Derived.ChangeVars
set_option linter.unusedVariables false
set_option linter.unusedSimpArgs false
namespace Go.Proofs.YtohmnedenhngpaaDoor
open Go.RowKit Go.ChangeShapes
def evWords : List ByteArray := [⟨#[]⟩, ⟨#[112, 117, 116]⟩, ⟨#[115, 101, 110, 100]⟩, ⟨#[116, 105, 99, 107]⟩, ⟨#[98, 117, 115, 121]⟩, ⟨#[97, 99, 107]⟩, ⟨#[103, 114, 97, 110, 116]⟩, ⟨#[104, 101, 97, 114]⟩, ⟨#[108, 111, 115, 101]⟩, ⟨#[98, 101, 110, 100]⟩, ⟨#[109, 111, 118, 101]⟩, ⟨#[105, 110, 106, 101, 99, 116]⟩]
theorem gEv : Tryd.prog.globalNamed "loop.example/linkboy/impl.eventWords" = some 0 := by kernel_rfl
theorem gEvT : (Tryd.prog.globals[0]?).map (·.type) = some 37 := by kernel_rfl
theorem gP10 : Tryd.prog.globalNamed "internal/strconv.uint64pow10" = some 3 := by kernel_rfl
theorem cellsS : Tryd.prog.cellsOf 9 = 1 := by kernel_rfl
/-- The words' table lies in W: the variable's cell, and its twelve words. -/
structure EvTab (W : World) (a : Addr) (cap : Nat) : Prop where
  var : W.cell? ⟨0, 0, none⟩ = some (.slice (some a) 12 cap)
  le : 12 ≤ cap
  word : ∀ i, i < 12 → W.cell? (a.add i) = some (.string (evWords.getD i ByteArray.empty))
  lt : a.block < W.heap.size
  g : 0 < W.heap.size
theorem EvTab.below {W W1 : World} {a : Addr} {cap : Nat} (h : EvTab W a cap) (hb : Below W.heap.size W W1) : EvTab W1 a cap :=
  ⟨by rw [hb.cell (p := ⟨_, 0, none⟩) h.g]; exact h.var, h.le, fun i hi => by rw [hb.cell (p := a.add i) (by unfold Addr.add; split <;> exact h.lt)]; exact h.word i hi, Nat.lt_of_lt_of_le h.lt hb.size, Nat.lt_of_lt_of_le h.g hb.size⟩
def evData {H : Type} : DataW H := .slice (evWords.map fun s => .lit (.string s.data.toList)) []
theorem strs_inj {H : Type} : ∀ {l m : List ByteArray}, (strs l : List (DataW H)) = strs m → l = m := by
  intro l
  induction l with
  | nil => intro m h; cases m with | nil => rfl | cons _ _ => simp [strs] at h
  | cons a l ih =>
    intro m h
    cases m with
    | nil => simp [strs] at h
    | cons b m =>
      simp only [strs, List.map_cons, List.cons.injEq] at h
      obtain ⟨h1, h2⟩ := h
      have : a = b := by
        injection h1 with h1
        injection h1 with h1
        cases a; cases b
        simp only [ByteArray.mk.injEq]
        exact Array.toList_inj.mp h1
      rw [this, ih h2]
theorem evTab_of {W : World} (h : laidMet Tryd.prog [("loop.example/linkboy/impl.eventWords", Rows.laid_loop_example_linkboy_impl_eventWords)] W) : ∃ a cap, EvTab W a cap := by
  obtain ⟨ps, ⟨g', t', cs, fuel, p, q, hg', ht', hvar, hd, _, _⟩, _⟩ := h
  obtain rfl := Option.some.inj (gEv.symm.trans hg')
  obtain rfl := Option.some.inj (gEvT.symm.trans ht')
  have hd' : DataW.trod _ Tryd.prog W 0 _ _ fuel 37 cs.toList = some (evData, p) := hd
  rcases open_strings Tryd.underlying37 Tryd.underlying9 cellsS hd' with ⟨_, hx⟩ | ⟨a, len, cap, ss, hcs, hb, hl, hm, hlen, hx, hcell, hsz⟩
  · cases hx
  · have e := (Prod.mk.inj hx).1
    unfold evData at e
    injection e with e1 e2
    have hs : ss.length = cap ∨ ss.length = len := by split at hlen <;> simp [hlen]
    have e3 : ss.take len = evWords := (strs_inj e1).symm
    have e4 : (ss.take len).length = 12 := by rw [e3]; rfl
    have e5 : len = 12 := by
      rw [List.length_take] at e4
      rcases hs with hs | hs <;> omega
    subst e5
    have e6 : 12 ≤ ss.length := by rw [List.length_take] at e4; omega
    have hw : ∀ i, i < 12 → W.cell? (a.add i) = some (.string (evWords.getD i ByteArray.empty)) := fun i hi => by
      rw [hcell i (by omega), ← e3]
      simp [List.getD_eq_getElem?_getD, List.getElem?_take, hi]
    have hv := World.var?_cell hg' hvar 0
    have hcs' : cs = #[.slice (some a) 12 cap] := by
      cases cs with
      | mk l => simp only at hcs; subst hcs; rfl
    rw [hcs'] at hv
    have h0 := hw 0 (by omega)
    have hlt := World.block_lt_of_cell? W _ h0
    have hlt' := World.block_lt_of_cell? W _ hv
    refine ⟨a, cap, ⟨by simpa using hv, hl, hw, ?_, hlt'⟩⟩
    unfold Addr.add at hlt; split at hlt <;> exact hlt
theorem below_grow {B : Nat} {a w : World} (h : Below B a w) (hB : B ≤ w.heap.size) (os : Array Obj) : Below B a (Sort.grow w os) :=
  h.trans ⟨rfl, rfl, rfl, by simp, fun k hk => Sort.heap_grow_old _ _ (by omega)⟩
theorem below_drewN {B : Nat} {a w : World} (h : Below B a w) (n : Nat) : Below B a (w.drewN n) := by
  induction n with
  | zero => exact h
  | succ n ih => exact h.trans ⟨rfl, rfl, rfl, Nat.le_refl _, fun _ _ => rfl⟩
theorem tabIs_below {W W1 : World} {k : IntKind} {zs : List Int} (h : Lib.TabIs Tryd.prog W "internal/strconv.uint64pow10" k zs) (hb : Below W.heap.size W W1) : Lib.TabIs Tryd.prog W1 "internal/strconv.uint64pow10" k zs := by
  unfold Lib.TabIs World.var? at h ⊢
  rw [gP10] at h ⊢
  simp only [Option.bind_some] at h ⊢
  have hlt : 3 < W.heap.size := by
    rcases hh : W.heap[3]? with _ | o
    · rw [hh] at h; cases h
    · exact (Array.getElem?_eq_some_iff.1 hh).1
  rw [hb.block _ hlt]; exact h
end Go.Proofs.YtohmnedenhngpaaDoor
