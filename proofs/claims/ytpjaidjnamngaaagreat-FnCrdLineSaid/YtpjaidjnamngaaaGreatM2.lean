/- The engine: a region that draws its order: what only reads is taken first, what makes memory in the orders that there are, what writes last. · The engine, sixth part: regions, code, calls. · The engine, seventh part: regions, code and calls keep what is said of them. -/
import Derived.Test.YtpjaidjnamngaaaGreatM1
import Derived.OrdersHeld
import Derived.BigFrame
import Derived.Deep.Draws
import Derived.Deep.QuietTactic
import Derived.BigQuiet
import Derived.Deep.LoopGhost
namespace Go.Proofs.YtpjaidjnamngaaaGreat
set_option linter.unusedVariables false
set_option linter.unusedSimpArgs false
open Go.RowKit
section
variable {P : Program} {ops : Array Oper} {Q : Exit → Act → World → Prop} {md : Region.Mode} {S : World → Prop} {T : List Nat}
/-- Whoever is done had all done that it waits for. -/
def Dc (md : Region.Mode) (ops : Array Oper) (listed : Array Bool) : Prop := ∀ j o e, ops[j]? = some o → listed.getD j false = true → e ∈ o.after → Region.binds md e = true → listed.getD e.on false = true
theorem Dc.set {listed : Array Bool} {j : Nat} (h : Dc md ops listed) (hj : j ∈ Region.ready md ops listed) : Dc md ops (listed.setIfInBounds j true) := by
  intro k o e ho hk he hb
  by_cases hkj : j = k
  · subst hkj
    obtain ⟨_, o', ho', hall⟩ := mem_ready.1 hj
    rw [ho] at ho'; cases ho'
    exact getD_set_true (hall e he hb)
  · rw [getD_set_ne false hkj] at hk
    exact getD_set_true (h k o e ho hk he hb)
def reach (md : Region.Mode) (ops : Array Oper) : Nat → Nat → Nat → Bool
  | 0, _, _ => false
  | k + 1, i, j => match ops[j]? with
    | some o => o.after.any fun e => Region.binds md e && (e.on == i || reach md ops k i e.on)
    | none => false
theorem reach_spec {listed : Array Bool} (h : Dc md ops listed) : ∀ k i j, reach md ops k i j = true → listed.getD j false = true → listed.getD i false = true := by
  intro k
  induction k with
  | zero => intro i j hr; cases hr
  | succ k ih =>
    intro i j hr hj
    unfold reach at hr
    split at hr
    · rename_i o ho
      obtain ⟨e, he, hb⟩ := Array.any_eq_true'.1 hr
      simp only [Bool.and_eq_true, Bool.or_eq_true, beq_iff_eq] at hb
      have := h j o e ho hj he hb.1
      rcases hb.2 with hb2 | hb2
      · rw [← hb2]; exact this
      · exact ih i e.on hb2 this
    · cases hr
/-- None of the last has come up. -/
def NoTail (T : List Nat) (listed : Array Bool) : Prop := ∀ j ∈ T, listed.getD j false = false
instance (T : List Nat) (listed : Array Bool) : Decidable (NoTail T listed) := inferInstanceAs (Decidable (∀ j ∈ T, listed.getD j false = false))
theorem getD_tf {listed : Array Bool} {i : Nat} (h : listed.getD i true = false) : listed.getD i false = false := by
  rcases Nat.lt_or_ge i listed.size with h' | h'
  · simp [h'] at h ⊢; exact h
  · simp [Array.getElem?_eq_none h'] at h
theorem noTail_of {listed : Array Bool} {i n : Nat} (h : Dc md ops listed) (hr : (T.all fun j => reach md ops n i j) = true) (hi : listed.getD i true = false) : NoTail T listed := by
  intro j hj
  cases hl : listed.getD j false with
  | false => rfl
  | true =>
    have := reach_spec h n i j (List.all_eq_true.1 hr j hj) hl
    rw [getD_tf hi] at this; cases this
def wpAnyS (P : Program) (md : Region.Mode) (ops : Array Oper) (Q : Exit → Act → World → Prop) (T : List Nat) (S : World → Prop) : Nat → Array Bool → Act → World → Prop
  | 0, listed, a, w => Region.ready md ops listed = [] ∧ Q .normal a w
  | fuel + 1, listed, a, w =>
    (Region.ready md ops listed = [] → Q .normal a w) ∧
    ∀ i ∈ Region.ready md ops listed, wpOp P ops Q i (fun a' w' => (NoTail T (listed.setIfInBounds i true) → S w') ∧ wpAnyS P md ops Q T S fuel (listed.setIfInBounds i true) a' w') a w
theorem wpAny_of_S : ∀ (fuel : Nat) (listed : Array Bool) (a : Act) (w : World), wpAnyS P md ops Q T S fuel listed a w → wpAny P md ops Q fuel listed a w
  | 0, _, _, _, h => h
  | fuel + 1, _, _, _, h => ⟨h.1, fun i hi => wpOp_mono (fun a' w' h' => wpAny_of_S fuel _ a' w' h'.2) (h.2 i hi)⟩
/-- A panic's post does not hang on the frame's slots. -/
def Calm (Q : Exit → Act → World → Prop) : Prop := ∀ (d : Option Tmp) (v : Value) c a w, Q (.panic c) (a.put d v) w → Q (.panic c) a w
theorem noTail_set {listed : Array Bool} {i : Nat} (hiT : i ∉ T) : NoTail T (listed.setIfInBounds i true) ↔ NoTail T listed := by
  constructor
  · intro h j hj
    have hne : i ≠ j := fun e => hiT (e ▸ hj)
    have := h j hj
    rwa [getD_set_ne false hne] at this
  · intro h j hj
    have hne : i ≠ j := fun e => hiT (e ▸ hj)
    rw [getD_set_ne false hne]; exact h j hj
/-- What only reads may be taken first. -/
theorem wpAnyS_first {i n : Nat} {oi : Oper} {v : Value} (hi : ops[i]? = some oi) (hsel : ∀ (j : Nat) (o : Oper) cs b, ops[j]? = some o → o.op ≠ .select cs b)
    (hQ : Calm Q) (hiT : i ∉ T) (hreach : (T.all fun j => reach md ops n i j) = true) :
    ∀ (fuel : Nat) (listed : Array Bool) (a : Act) (w : World), Dc md ops listed →
      (∀ j oj, ops[j]? = some oj → j ≠ i → listed.getD j true = false → (∀ e ∈ oj.after, Region.binds md e = true → e.on ≠ i) → oi.apart ops oj = true) →
      i ∈ Region.ready md ops listed → YieldsIf P ops S oi v a → (NoTail T listed → S w) →
      wpAnyS P md ops Q T S fuel (listed.setIfInBounds i true) (a.put oi.dst v) w → wpAnyS P md ops Q T S (fuel + 1) listed a w := by
  intro fuel
  induction fuel with
  | zero =>
    intro listed a w hdc _ hr hy hS H
    have hSw := hS (noTail_of hdc hreach (mem_ready.1 hr).1)
    refine ⟨fun h => (by rw [h] at hr; cases hr), fun j hj => ?_⟩
    by_cases hji : j = i
    · subst hji; exact hy.wpOp hi hSw ⟨fun _ => hSw, H⟩
    · have := ready_mono hj hji
      rw [H.1] at this
      cases this
  | succ fuel ih =>
    intro listed a w hdc hfree hr hy hS H
    have hSw := hS (noTail_of hdc hreach (mem_ready.1 hr).1)
    refine ⟨fun h => (by rw [h] at hr; cases hr), fun j hj => ?_⟩
    by_cases hji : j = i
    · subst hji; exact hy.wpOp hi hSw ⟨fun _ => hSw, H⟩
    · have h1 := H.2 j (ready_mono hj hji)
      obtain ⟨hjun, oj, hoj, hall⟩ := mem_ready.1 hj
      have hnot : ∀ e ∈ oj.after, Region.binds md e = true → e.on ≠ i := fun e he hb heq => by
        have h1 := hall e he hb
        have h0 := (mem_ready.1 hr).1
        rw [heq] at h1
        rw [getD_tf h0] at h1; cases h1
      have h2 := wpOp_putIf hoj (hfree j oj hoj hji hjun hnot) (fun cs b => hsel i oi cs b hi) (fun cs b => hsel j oj cs b hoj) (fun c a w => hQ oi.dst v c a w) hy h1
      have hfree' : ∀ k ok, ops[k]? = some ok → k ≠ i → (listed.setIfInBounds j true).getD k true = false →
          (∀ e ∈ ok.after, Region.binds md e = true → e.on ≠ i) → oi.apart ops ok = true := fun k ok hk hki hun hno => by
        refine hfree k ok hk hki ?_ hno
        by_cases hjk : j = k
        · subst hjk; exact hjun
        · rw [getD_set_ne true hjk] at hun; exact hun
      refine wpOp_mono (fun a' w' h3 => ?_) h2
      have hkeep : NoTail T (listed.setIfInBounds j true) → S w' := fun hn => h3.2.1 (by rw [Array.setIfInBounds_comm _ _ (Ne.symm hji)]; exact (noTail_set hiT).2 hn)
      refine ⟨hkeep, ih (listed.setIfInBounds j true) a' w' (hdc.set hj) hfree' (ready_mono hr (Ne.symm hji)) h3.1 hkeep ?_⟩
      rw [Array.setIfInBounds_comm _ _ hji]
      exact h3.2.2
/-- What hangs on no world may be taken first, wherever the last stand. -/
theorem wpAnyS_firstY {i : Nat} {oi : Oper} {v : Value} (hi : ops[i]? = some oi) (hsel : ∀ (j : Nat) (o : Oper) cs b, ops[j]? = some o → o.op ≠ .select cs b)
    (hQ : Calm Q) (hiT : i ∉ T) :
    ∀ (fuel : Nat) (listed : Array Bool) (a : Act) (w : World),
      (∀ j oj, ops[j]? = some oj → j ≠ i → listed.getD j true = false → (∀ e ∈ oj.after, Region.binds md e = true → e.on ≠ i) → oi.apart ops oj = true) →
      i ∈ Region.ready md ops listed → YieldsIf P ops (fun _ => True) oi v a → (NoTail T listed → S w) →
      wpAnyS P md ops Q T S fuel (listed.setIfInBounds i true) (a.put oi.dst v) w → wpAnyS P md ops Q T S (fuel + 1) listed a w := by
  intro fuel
  induction fuel with
  | zero =>
    intro listed a w _ hr hy hS H
    refine ⟨fun h => (by rw [h] at hr; cases hr), fun j hj => ?_⟩
    by_cases hji : j = i
    · subst hji; exact hy.wpOp hi trivial ⟨fun hn => hS ((noTail_set hiT).1 hn), H⟩
    · have := ready_mono hj hji
      rw [H.1] at this
      cases this
  | succ fuel ih =>
    intro listed a w hfree hr hy hS H
    refine ⟨fun h => (by rw [h] at hr; cases hr), fun j hj => ?_⟩
    by_cases hji : j = i
    · subst hji; exact hy.wpOp hi trivial ⟨fun hn => hS ((noTail_set hiT).1 hn), H⟩
    · have h1 := H.2 j (ready_mono hj hji)
      obtain ⟨hjun, oj, hoj, hall⟩ := mem_ready.1 hj
      have hnot : ∀ e ∈ oj.after, Region.binds md e = true → e.on ≠ i := fun e he hb heq => by
        have h1 := hall e he hb
        have h0 := (mem_ready.1 hr).1
        rw [heq] at h1
        rw [getD_tf h0] at h1; cases h1
      have h2 := wpOp_putIf hoj (hfree j oj hoj hji hjun hnot) (fun cs b => hsel i oi cs b hi) (fun cs b => hsel j oj cs b hoj) (fun c a w => hQ oi.dst v c a w) hy h1
      have hfree' : ∀ k ok, ops[k]? = some ok → k ≠ i → (listed.setIfInBounds j true).getD k true = false →
          (∀ e ∈ ok.after, Region.binds md e = true → e.on ≠ i) → oi.apart ops ok = true := fun k ok hk hki hun hno => by
        refine hfree k ok hk hki ?_ hno
        by_cases hjk : j = k
        · subst hjk; exact hjun
        · rw [getD_set_ne true hjk] at hun; exact hun
      refine wpOp_mono (fun a' w' h3 => ?_) h2
      have hkeep : NoTail T (listed.setIfInBounds j true) → S w' := fun hn => h3.2.1 (by rw [Array.setIfInBounds_comm _ _ (Ne.symm hji)]; exact (noTail_set hiT).2 hn)
      refine ⟨hkeep, ih (listed.setIfInBounds j true) a' w' hfree' (ready_mono hr (Ne.symm hji)) h3.1 hkeep ?_⟩
      rw [Array.setIfInBounds_comm _ _ hji]
      exact h3.2.2
def Sb (S : World → Prop) : Bool → World → Prop
  | true => S
  | false => fun _ => True
/-- Operations that only yield, one behind the other. -/
def SegY (P : Program) (ops : Array Oper) (S : World → Prop) : List (Nat × Bool) → Act → Act → Prop
  | [], a, A => A = a
  | (i, b) :: l, a, A => match ops[i]? with
    | some o => ∃ v, YieldsIf P ops (Sb S b) o v a ∧ SegY P ops S l (a.put o.dst v) A
    | none => False
theorem SegY.nil {a : Act} : SegY P ops S [] a a := rfl
/-- What follows an operation in the middle of the region. -/
def RegK (S : Prop → World → Prop) (N : Prop) (R : Act → World → Prop) (Q : Exit → Act → World → Prop) : Exit → Act → World → Prop
  | .normal, a, w => S N w ∧ R a w
  | e, a, w => Q e a w
def IfS (S : World → Prop) (N : Prop) (w : World) : Prop := N → S w
theorem RegK.to {N : Prop} {R : Act → World → Prop} {a : Act} {w : World} (hS : N → S w) (h : (N → S w) → R a w) : RegK (IfS S) N R Q .normal a w := ⟨hS, h hS⟩
theorem wp_regK {N : Prop} {o : Oper} {a : Act} {w : World} {R : Act → World → Prop} (h : o.wp P a w (wpList P ops (RegK (IfS S) N R Q) []) (RegK (IfS S) N R Q)) : o.wp P a w (fun a' w' => (N → S w') ∧ R a' w') Q := by
  unfold Oper.wp at *
  generalize (execOp a.eval o).run P w = r at *
  cases r with
  | ok n w' =>
    cases n <;> simp only [Oper.upon] at h ⊢ <;> first
      | exact h
      | (refine Calls.mono h fun e w'' he => ?_; cases e <;> first | exact he | (obtain ⟨a0, w0, h0⟩ := he; exact ⟨a0, w0, h0⟩))
  | halt x w' => cases x <;> simp only [Oper.upon] at h ⊢ <;> exact h
theorem wpOp_one {N : Prop} {i : Nat} {o : Oper} {a : Act} {w : World} {R : Act → World → Prop} (ho : ops[i]? = some o) (h : wpList P ops (RegK (IfS S) N R Q) [o] a w) : wpOp P ops Q i (fun a' w' => (N → S w') ∧ R a' w') a w := by
  unfold wpOp
  simp only [ho]
  simp only [wpList] at h
  split
  · rename_i hw
    rw [if_pos hw] at h
    rcases h with h | ⟨h1, a0, w0, h0⟩
    · exact .inl (wp_regK (ops := ops) h)
    · exact .inr ⟨h1, a0, w0, h0⟩
  · rename_i hw
    rw [if_neg hw] at h
    exact h
/-- The one operation that may come up now. -/
def NextL (P : Program) (ops : Array Oper) (Q : Exit → Act → World → Prop) (i : Nat) (a : Act) (w : World) : Prop := match ops[i]? with
  | some o => wpList P ops Q [o] a w
  | none => False
theorem wpAnyS_mem {i : Nat} {fuel : Nat} {listed' : Array Bool} (n : Nat) {listed : Array Bool} {a : Act} {w : World} (hn : n = fuel + 1) (hl : listed.setIfInBounds i true = listed') (hr : Region.ready md ops listed = [i]) (hd : Dc md ops listed)
    (h : Dc md ops listed' → NextL P ops (RegK (IfS S) (NoTail T listed') (wpAnyS P md ops Q T S fuel listed') Q) i a w) : wpAnyS P md ops Q T S n listed a w := by
  subst hn
  subst hl
  refine ⟨fun h0 => (by rw [h0] at hr; cases hr), fun j hj => ?_⟩
  have hi : i ∈ Region.ready md ops listed := by rw [hr]; exact List.mem_singleton.2 rfl
  have h' := h (hd.set hi)
  rw [hr] at hj
  rw [List.mem_singleton.mp hj]
  unfold NextL at h'
  split at h'
  · rename_i o ho; exact wpOp_one ho h'
  · exact h'.elim
theorem wpAnyS_mem2 {i j : Nat} {fuel : Nat} {li lj : Array Bool} (n : Nat) {listed : Array Bool} {a : Act} {w : World} (hn : n = fuel + 1) (hli : listed.setIfInBounds i true = li) (hlj : listed.setIfInBounds j true = lj) (hr : Region.ready md ops listed = [i, j]) (hd : Dc md ops listed)
    (h : Dc md ops li → NextL P ops (RegK (IfS S) (NoTail T li) (wpAnyS P md ops Q T S fuel li) Q) i a w)
    (h' : Dc md ops lj → NextL P ops (RegK (IfS S) (NoTail T lj) (wpAnyS P md ops Q T S fuel lj) Q) j a w) : wpAnyS P md ops Q T S n listed a w := by
  subst hn
  subst hli
  subst hlj
  have hi : i ∈ Region.ready md ops listed := by rw [hr]; simp
  have hj : j ∈ Region.ready md ops listed := by rw [hr]; simp
  have k := h (hd.set hi)
  have k' := h' (hd.set hj)
  refine ⟨fun h0 => (by rw [h0] at hr; cases hr), fun x hx => ?_⟩
  rw [hr] at hx
  simp only [List.mem_cons, List.not_mem_nil, or_false] at hx
  rcases hx with rfl | rfl
  · unfold NextL at k
    split at k
    · rename_i o ho; exact wpOp_one ho k
    · exact k.elim
  · unfold NextL at k'
    split at k'
    · rename_i o ho; exact wpOp_one ho k'
    · exact k'.elim
theorem wpAnyS_mem3 {i j k : Nat} {fuel : Nat} {li lj lk : Array Bool} (n : Nat) {listed : Array Bool} {a : Act} {w : World} (hn : n = fuel + 1) (hli : listed.setIfInBounds i true = li) (hlj : listed.setIfInBounds j true = lj) (hlk : listed.setIfInBounds k true = lk) (hr : Region.ready md ops listed = [i, j, k]) (hd : Dc md ops listed)
    (h : Dc md ops li → NextL P ops (RegK (IfS S) (NoTail T li) (wpAnyS P md ops Q T S fuel li) Q) i a w)
    (h' : Dc md ops lj → NextL P ops (RegK (IfS S) (NoTail T lj) (wpAnyS P md ops Q T S fuel lj) Q) j a w)
    (h'' : Dc md ops lk → NextL P ops (RegK (IfS S) (NoTail T lk) (wpAnyS P md ops Q T S fuel lk) Q) k a w) : wpAnyS P md ops Q T S n listed a w := by
  subst hn
  subst hli
  subst hlj
  subst hlk
  have hi : i ∈ Region.ready md ops listed := by rw [hr]; simp
  have hj : j ∈ Region.ready md ops listed := by rw [hr]; simp
  have hk : k ∈ Region.ready md ops listed := by rw [hr]; simp
  have k1 := h (hd.set hi)
  have k2 := h' (hd.set hj)
  have k3 := h'' (hd.set hk)
  refine ⟨fun h0 => (by rw [h0] at hr; cases hr), fun x hx => ?_⟩
  rw [hr] at hx
  simp only [List.mem_cons, List.not_mem_nil, or_false] at hx
  rcases hx with rfl | rfl | rfl
  · unfold NextL at k1
    split at k1
    · rename_i o ho; exact wpOp_one ho k1
    · exact k1.elim
  · unfold NextL at k2
    split at k2
    · rename_i o ho; exact wpOp_one ho k2
    · exact k2.elim
  · unfold NextL at k3
    split at k3
    · rename_i o ho; exact wpOp_one ho k3
    · exact k3.elim
theorem wpAnyS_end {listed : Array Bool} {a : Act} {w : World} (n : Nat) (hr : Region.ready md ops listed = []) (h : Q .normal a w) : wpAnyS P md ops Q T S n listed a w := by
  cases n with
  | zero => exact ⟨hr, h⟩
  | succ n => exact ⟨fun _ => h, by rw [hr]; simp⟩
theorem dc_start (n : Nat) : Dc md ops (Array.replicate n false) := by
  intro j o e _ hj
  simp [Array.getElem?_replicate] at hj
  split at hj <;> simp at hj
theorem wp_regionS {id : Nat} {a : Act} {w : World} (T : List Nat) (hm : P.follows .mixedOrders = true) (hS : S w.drew)
    (h : Dc .any ops (Array.replicate ops.size false) → (NoTail T (Array.replicate ops.size false) → S w.drew) → wpAnyS P .any ops Q T S ops.size (Array.replicate ops.size false) a w.drew) : (Code.region id ops true).wp P Q a w :=
  wp_region_any hm (wpAny_of_S _ _ _ _ (h (dc_start _) (fun _ => hS)))
end
end Go.Proofs.YtpjaidjnamngaaaGreat
namespace Go.Proofs.YtpjaidjnamngaaaGreat
set_option linter.unusedVariables false
set_option linter.unusedSimpArgs false
open Go.RowKit
/-! Regions. -/
inductive Plan where
  | done
  | pure (i : Nat) (ld : Bool) (r : Plan)
  | mem (i : Nat) (r : Plan)
  | alt (i j : Nat) (ri rj : Plan)
  | alt3 (i j k : Nat) (ri rj rk : Plan)
/-- p: what yields in whatever world; l: what only reads; m: what makes memory; t: what writes, or comes behind that. -/
inductive Kd where
  | p | l | m | t
inductive IReg where
  | done
  | op (kd : Kd) (i : IOp) (d : Option Nat) (g : Option (Nat × Bool)) (r : IReg)
  | alt (a b : IReg)
def gOf (ops : Array Oper) (o : Oper) : Option (Option (Nat × Bool)) := match o.guard with
  | none => some none
  | some (j, b) => match (ops[j]?).bind (·.dst) with
    | some t => some (some (t, b))
    | none => none
def trReg (P : Program) (ops : Array Oper) (T : List Nat) : Plan → Nat → Array Bool → Option IReg
  | .done, _, listed => if (Region.ready .any ops listed).isEmpty then some .done else none
  | .pure i ld r, n + 1, listed => match ops[i]? with
    | some o => match gOf ops o with
      | some g => if (Region.ready .any ops listed).contains i && Region.free .any ops listed i && !(T.contains i) && (!ld || T.all fun j => reach .any ops ops.size i j) then
          match trReg P ops T r n (listed.setIfInBounds i true) with
          | some r' => some (.op (if ld then .l else .p) (tr P o.op) o.dst g r')
          | none => none
        else none
      | none => none
    | none => none
  | .mem i r, n + 1, listed => match ops[i]? with
    | some o => match gOf ops o with
      | some g => if Region.ready .any ops listed == [i] then
          match trReg P ops T r n (listed.setIfInBounds i true) with
          | some r' => some (.op (if T.any fun j => (listed.setIfInBounds i true).getD j false then .t else .m) (tr P o.op) o.dst g r')
          | none => none
        else none
      | none => none
    | none => none
  | .alt i j ri rj, n + 1, listed => match ops[i]?, ops[j]? with
    | some oi, some oj => match gOf ops oi, gOf ops oj with
      | some gi, some gj => if Region.ready .any ops listed == [i, j] then
          match trReg P ops T ri n (listed.setIfInBounds i true), trReg P ops T rj n (listed.setIfInBounds j true) with
          | some a, some b => some (.alt (.op (if T.any fun k => (listed.setIfInBounds i true).getD k false then .t else .m) (tr P oi.op) oi.dst gi a) (.op (if T.any fun k => (listed.setIfInBounds j true).getD k false then .t else .m) (tr P oj.op) oj.dst gj b))
          | _, _ => none
        else none
      | _, _ => none
    | _, _ => none
  | .alt3 i j k ri rj rk, n + 1, listed => match ops[i]?, ops[j]?, ops[k]? with
    | some oi, some oj, some ok => match gOf ops oi, gOf ops oj, gOf ops ok with
      | some gi, some gj, some gk => if Region.ready .any ops listed == [i, j, k] then
          match trReg P ops T ri n (listed.setIfInBounds i true), trReg P ops T rj n (listed.setIfInBounds j true), trReg P ops T rk n (listed.setIfInBounds k true) with
          | some a, some b, some c => some (.alt (.op (if T.any fun q => (listed.setIfInBounds i true).getD q false then .t else .m) (tr P oi.op) oi.dst gi a) (.alt (.op (if T.any fun q => (listed.setIfInBounds j true).getD q false then .t else .m) (tr P oj.op) oj.dst gj b) (.op (if T.any fun q => (listed.setIfInBounds k true).getD q false then .t else .m) (tr P ok.op) ok.dst gk c)))
          | _, _, _ => none
        else none
      | _, _, _ => none
    | _, _, _ => none
  | _, 0, _ => none
def isMem (P : Program) (o : Oper) : Bool := match tr P o.op with
  | .alc _ _ => true
  | .box _ _ => true
  | .bsl _ _ _ _ _ => true
  | .sto _ _ _ => true
  | .call _ _ => true
  | .app _ _ _ => true
  | .oth _ => true
  | _ => false
def isLd (P : Program) (o : Oper) : Bool := match tr P o.op with
  | .ld _ _ _ => true
  | _ => false
def tmpsOf (o : Oper) : List Tmp := o.op.operands.toList.filterMap fun | .tmp t => some t | _ => none
/-- Which temporaries hang on memory that the region makes. -/
def taint (P : Program) : List Oper → List Tmp → List Tmp
  | [], l => l
  | o :: r, l => if isMem P o || (tmpsOf o).any l.contains then taint P r (match o.dst with | some d => d :: l | none => l) else taint P r l
def mkPlan (P : Program) (ops : Array Oper) (T : List Nat) (tt : List Tmp) : Nat → Array Bool → Plan
  | 0, _ => .done
  | n + 1, listed =>
    let rd := Region.ready .any ops listed
    let noT := !(T.any fun j => listed.getD j false)
    match rd.find? fun i => match ops[i]? with
      | some o => !isMem P o && (!isLd P o || (noT && !((tmpsOf o).any tt.contains) && T.all fun j => reach .any ops ops.size i j))
      | none => false with
    | some i => .pure i (match ops[i]? with | some o => isLd P o | none => false) (mkPlan P ops T tt n (listed.setIfInBounds i true))
    | none => match rd with
      | [] => .done
      | [i] => .mem i (mkPlan P ops T tt n (listed.setIfInBounds i true))
      | [i, j] => .alt i j (mkPlan P ops T tt n (listed.setIfInBounds i true)) (mkPlan P ops T tt n (listed.setIfInBounds j true))
      | [i, j, k] => .alt3 i j k (mkPlan P ops T tt n (listed.setIfInBounds i true)) (mkPlan P ops T tt n (listed.setIfInBounds j true)) (mkPlan P ops T tt n (listed.setIfInBounds k true))
      | _ => .done
/-- Where an address begins: the temporary from before the region. -/
def rootOf (P : Program) (ops : List Oper) : Nat → Tmp → Tmp
  | 0, t => t
  | n + 1, t => match ops.find? fun o => o.dst == some t with
    | some o => match tr P o.op with
      | .fad (.tmp x) _ => rootOf P ops n x
      | .nil (.tmp x) => rootOf P ops n x
      | .mv (.tmp x) => rootOf P ops n x
      | _ => t
    | none => t
def stoRoot (P : Program) (ops : List Oper) (o : Oper) : Option Tmp := match tr P o.op with
  | .sto (.tmp x) _ _ => some (rootOf P ops 9 x)
  | _ => none
def ldRoot (P : Program) (ops : List Oper) (o : Oper) : Option Tmp := match tr P o.op with
  | .ld (.tmp x) _ _ => some (rootOf P ops 9 x)
  | _ => none
/-- What is written here, and not read. -/
def xsOf (P : Program) (ops : List Oper) : List Tmp := ((ops.filterMap (stoRoot P ops)).filter fun t => !(ops.filterMap (ldRoot P ops)).contains t && !(ops.any fun o => o.dst == some t)).eraseDups
def isTail (P : Program) (tl : List FuncId) (xs : List Tmp) (ops : List Oper) (o : Oper) : Bool := match tr P o.op with
  | .sto _ _ _ => match stoRoot P ops o with
    | some t => !xs.contains t
    | none => true
  | .call f _ => tl.contains f
  | _ => false
def planOf (P : Program) (tl : List FuncId) (ops : Array Oper) : List Tmp × List Nat × Plan :=
  let xs := xsOf P ops.toList
  let T := (List.range ops.size).filter fun i => match ops[i]? with | some o => isTail P tl xs ops.toList o | none => false
  (xs, T, mkPlan P ops T (taint P ops.toList (tl.filterMap fun x => if 1000000 ≤ x then some (x - 1000000) else none)) ops.size (Array.replicate ops.size false))
/-- The names that temporaries hold. -/
def xnm (t : List SV) : List Tmp → List Nat
  | [] => []
  | p :: r => match gt t p with
    | .c (.p k _) => k :: xnm t r
    | _ => xnm t r
/-- A plain region: one behind the other. -/
def trSeq (P : Program) (ops : Array Oper) : List Oper → Option IReg
  | [] => some .done
  | o :: l => match gOf ops o, trSeq P ops l with
    | some g, some r => some (.op .t (tr P o.op) o.dst g r)
    | _, _ => none
def callM (P : Program) (f : FuncId) (args : List Operand) (d : Option Nat) (s : St) (K : St → Prop) : Prop := ∀ o : Oper, tr P o.op = .call f args → o.dst = d → opM P o s K
def callT (P : Program) (f : FuncId) (args : List Operand) (d : Option Nat) (s : St) (K : St → Prop) : Prop := ∀ o : Oper, tr P o.op = .call f args → o.dst = d → opT P o s K
def appM (P : Program) (t : TypeId) (a b : Operand) (d : Option Nat) (s : St) (K : St → Prop) : Prop := ∀ o : Oper, tr P o.op = .app t a b → o.dst = d → opM P o s K
def appT (P : Program) (t : TypeId) (a b : Operand) (d : Option Nat) (s : St) (K : St → Prop) : Prop := ∀ o : Oper, tr P o.op = .app t a b → o.dst = d → opT P o s K
theorem appM.toT {P : Program} {t : TypeId} {a b : Operand} {d : Option Nat} {s : St} {K : St → Prop} (h : appM P t a b d s K) : appT P t a b d s K := fun o h1 h2 => (h o h1 h2).toT
def othM (P : Program) (op : Op) (d : Option Nat) (s : St) (K : St → Prop) : Prop := ∀ o : Oper, o.op = op → o.dst = d → opM P o s K
def othT (P : Program) (op : Op) (d : Option Nat) (s : St) (K : St → Prop) : Prop := ∀ o : Oper, o.op = op → o.dst = d → opT P o s K
def stoV (P : Program) (x y : Operand) (sz : Nat) (d : Option Nat) (s : St) (K : St → Prop) : Prop := ∀ o : Oper, tr P o.op = .sto x y sz → o.dst = d → opT P o s K
def vcM (X : List Nat) (P : Program) (i : IOp) (d : Option Nat) (s : St) (K : St → Prop) : Prop := match i with
  | .call f args => callM P f args d s K
  | .app t a b => appM P t a b d s K
  | .oth op => othM P op d s K
  | .sto x y sz => match ev s.t x with
    | .c (.p k _) => k ∈ X ∧ vcm (.sto x y sz) d s K
    | _ => False
  | i => vcm i d s K
def vcT (P : Program) (i : IOp) (d : Option Nat) (s : St) (K : St → Prop) : Prop := match i with
  | .call f args => callT P f args d s K
  | .app t a b => appT P t a b d s K
  | .oth op => othT P op d s K
  | .sto x y sz => match ev s.t x with
    | .c (.f _ _) => stoV P x y sz d s K
    | _ => vcm (.sto x y sz) d s K
  | i => vcm i d s K
def vcG (g : Option (Nat × Bool)) (s : St) (A B : Prop) : Prop := match g with
  | none => A
  | some (t, b) => match gt s.t t with
    | .c (.v (.bool q)) => (q = b → A) ∧ (q = !b → B)
    | .c (.v (.tuple _)) => B
    | _ => False
def remX (X : List Nat) : Ents → Ents
  | [] => []
  | (k, e) :: L => if X.contains k then remX X L else (k, e) :: remX X L
def vcO (X : List Nat) (P : Program) (kd : Kd) (i : IOp) (d : Option Nat) (s0 s : St) (K : St → Prop) : Prop := match kd with
  | .p => vcp i s.t fun v => K ⟨stO s.t d v, s.L, s.z, s.n⟩
  | .l => match i with
    | .ld x sz agg => vcl x sz agg s.t (remX X s0.L) (RdAt s0.z) fun v => K ⟨stO s.t d v, s.L, s.z, s.n⟩
    | _ => False
  | .m => vcM X P i d s K
  | .t => vcT P i d s K
def vcR (X : List Nat) (P : Program) : IReg → St → St → (St → Prop) → Prop
  | .done, _, s, K => K s
  | .op kd i d g r, s0, s, K => vcG g s (vcO X P kd i d s0 s fun s' => vcR X P r s0 s' K) (vcR X P r s0 ⟨stO s.t d unS, s.L, s.z, s.n⟩ K)
  | .alt a b, s0, s, K => vcR X P a s0 s K ∧ vcR X P b s0 s K
section
variable {P : Program} {ops : Array Oper} {C : Ctx}
theorem gOf_spec {o : Oper} {g : Option (Nat × Bool)} (h : gOf ops o = some g) {s : St} {ρ : Nm} {a : Act} {w : World} (hs : Sat C ρ s a w) {A B : Prop} (hv : vcG g s A B) :
    (Region.wanted o (yielded ops a.tmps) = true ∧ A) ∨ (Region.wanted o (yielded ops a.tmps) = false ∧ B) := by
  unfold gOf at h
  unfold Region.wanted
  split at h
  · rename_i hg
    injection h with h
    subst h
    rw [hg]
    exact .inl ⟨rfl, hv⟩
  · rename_i j b hg
    rw [hg]
    split at h
    · rename_i t ht
      injection h with h
      subst h
      have hden := gt_den t hs.fr
      simp only [yielded, ht, Option.bind_some]
      unfold vcG at hv
      simp only at hv
      split at hv
      · rename_i q he
        rw [he] at hden
        have hden : a.tmps.toList.getD t undef = .bool q := hden
        have hget : a.tmps[t]? = some (.bool q) := by
          have h1 : a.tmps.toList[t]? = a.tmps[t]? := by simp
          rw [← h1]
          cases h2 : a.tmps.toList[t]? with
          | none => simp [List.getD, h2, undef] at hden
          | some u => simp [List.getD, h2] at hden; rw [hden]
        rw [hget]
        by_cases hq : q = b
        · exact .inl ⟨by simp [hq], hv.1 hq⟩
        · refine .inr ⟨by simp [hq], hv.2 ?_⟩
          cases q <;> cases b <;> simp_all
      · rename_i vs he
        rw [he] at hden
        have hden : a.tmps.toList.getD t undef = .tuple vs := hden
        have : (match a.tmps[t]? with | some (.bool b) => some b | _ => none) = (none : Option Bool) := by
          have h1 : a.tmps.toList[t]? = a.tmps[t]? := by simp
          rw [← h1]
          cases h2 : a.tmps.toList[t]? with
          | none => rfl
          | some u => simp [List.getD, h2] at hden; rw [hden]
        refine .inr ⟨?_, hv⟩
        show ((match a.tmps[t]? with | some (.bool b) => some b | _ => none) == some b) = false
        rw [this]; rfl
      · exact hv.elim
    · cases h
theorem tr_ld {op : Op} {x : Operand} {sz : Nat} {agg : Bool} (h : tr P op = .ld x sz agg) : ∃ ty n, op = .load ty x ∧ szOf P ty = some (n + 1, agg) ∧ sz = n + 1 := by
  cases op <;> simp only [tr, trCall] at h <;> (repeat' split at h) <;> first
    | contradiction
    | (cases h; done)
    | (injection h with h1 h2 h3; subst h1; subst h2; subst h3; exact ⟨_, _, rfl, by assumption, rfl⟩)
theorem tr_alc {op : Op} {e : TypeId} {z : List Value} (h : tr P op = .alc e z) : op = .alloc e ∧ zeroOf P e = some z := by
  cases op <;> simp only [tr, trCall] at h <;> (repeat' split at h) <;> first
    | contradiction
    | (cases h; done)
    | (injection h with h1 h2; subst h1; subst h2; exact ⟨rfl, by assumption⟩)
theorem tr_box {op : Op} {e : TypeId} {x : Operand} (h : tr P op = .box e x) : op = .box e x := by
  cases op <;> simp only [tr, trCall] at h <;> (repeat' split at h) <;> first
    | contradiction
    | (cases h; done)
    | (injection h with h1 h2; subst h1; subst h2; rfl)
theorem tr_bsl {op : Op} {e : TypeId} {sz len : Nat} {z : List Value} {ps : List (Nat × Operand)} (h : tr P op = .bsl e sz len z ps) : ∃ ty ps' agg, op = .buildSlice ty len ps' ∧ ps = ps'.toList ∧ isSlice P ty = some e ∧ szOf P e = some (sz, agg) ∧ zeroOf P e = some z ∧ len * sz ≤ 1000 ∧ z.length = sz := by
  cases op <;> simp only [tr, trCall] at h <;> (repeat' split at h) <;> first
    | contradiction
    | (cases h; done)
    | (rename_i hb; simp only [Bool.and_eq_true, decide_eq_true_eq, beq_iff_eq] at hb; injection h with h1 h2 h3 h4 h5; subst h1; subst h2; subst h3; subst h4; exact ⟨_, _, _, rfl, h5.symm, by assumption, by assumption, by assumption, hb.1, hb.2⟩)
theorem tr_sto {op : Op} {x y : Operand} {sz : Nat} (h : tr P op = .sto x y sz) : ∃ ty agg, op = .store ty x y ∧ szOf P ty = some (sz, agg) := by
  cases op <;> simp only [tr, trCall] at h <;> (repeat' split at h) <;> first
    | contradiction
    | (cases h; done)
    | (injection h with h1 h2 h3; subst h1; subst h2; subst h3; exact ⟨_, _, rfl, by assumption⟩)
theorem tr_oth {op op' : Op} (h : tr P op = .oth op') : op = op' := by
  cases op <;> simp only [tr, trCall] at h <;> (repeat' split at h) <;> first
    | contradiction
    | (cases h; done)
    | (injection h)
theorem vcm_opM {o : Oper} {s : St} {K : St → Prop} {i : IOp} (hi : tr P o.op = i) (hn : ∀ x y sz, i ≠ .sto x y sz) (hv : vcm i o.dst s K) : opM P o s K := by
  cases i with
  | ld x sz agg => obtain ⟨ty, n, h1, h2, rfl⟩ := tr_ld hi; exact opM_ld h1 h2 hv
  | alc e z => obtain ⟨h1, h2⟩ := tr_alc hi; exact opM_alc h1 h2 hv
  | box e x =>
    simp only [vcm] at hv
    split at hv
    · rename_i cs hcs; exact opM_box (tr_box hi) hcs hv.1 hv.2
    · exact hv.elim
  | bsl e sz len z ps => obtain ⟨ty, ps', agg, h1, rfl, h2, h3, h4, h5, h6⟩ := tr_bsl hi; exact opM_bsl h1 h2 h3 h4 h5 h6 hv
  | sto x y sz => exact absurd rfl (hn x y sz)
  | _ => exact opM_pure (by rw [hi]; exact hv)
theorem vcm_opT {o : Oper} {s : St} {K : St → Prop} {i : IOp} (hi : tr P o.op = i) (hv : vcm i o.dst s K) : opT P o s K := by
  by_cases hn : ∀ x y sz, i ≠ .sto x y sz
  · exact (vcm_opM hi hn hv).toT
  · have : ∃ x y sz, i = .sto x y sz := Classical.byContradiction fun h => hn fun x y sz e => h ⟨x, y, sz, e⟩
    obtain ⟨x, y, sz, rfl⟩ := this
    obtain ⟨ty, agg, h1, h2⟩ := tr_sto hi
    simp only [vcm] at hv
    split at hv
    · rename_i k off hx
      split at hv
      · rename_i e cs hk
        split at hv
        · rename_i ds hds; exact opT_sto h1 h2 hx hk hds hv.1.1 hv.1.2.1 hv.1.2.2 hv.2
        · exact hv.elim
      · exact hv.elim
    · exact hv.elim
theorem vcM_opX {X : List Nat} {o : Oper} {s : St} {K : St → Prop} (hv : vcM X P (tr P o.op) o.dst s K) : opX X P o s K := by
  generalize hi : tr P o.op = i at hv
  unfold vcM at hv
  split at hv
  · exact (hv o hi rfl).toX
  · exact (hv o hi rfl).toX
  · exact (hv o (tr_oth hi) rfl).toX
  · split at hv
    · rename_i x y sz _ k off hx
      obtain ⟨hX, hv⟩ := hv
      obtain ⟨ty, agg, h1, h2⟩ := tr_sto hi
      simp only [vcm, hx] at hv
      split at hv
      · rename_i e cs hk
        split at hv
        · rename_i ds hds; exact opX_sto h1 h2 hx hk hds hv.1.1 hv.1.2.1 hv.1.2.2 hv.2 hX
        · exact hv.elim
      · exact hv.elim
    · exact hv.elim
  · rename_i h1 h2 h3 h4; exact (vcm_opM hi (fun x y sz e => h4 x y sz e) hv).toX
theorem vcT_opT {o : Oper} {s : St} {K : St → Prop} (hv : vcT P (tr P o.op) o.dst s K) : opT P o s K := by
  generalize hi : tr P o.op = i at hv
  unfold vcT at hv
  split at hv
  · exact hv o hi rfl
  · exact hv o hi rfl
  · exact hv o (tr_oth hi) rfl
  · split at hv
    · exact hv o hi rfl
    · exact vcm_opT hi hv
  · exact vcm_opT hi hv
end
end Go.Proofs.YtpjaidjnamngaaaGreat
namespace Go.Proofs.YtpjaidjnamngaaaGreat
set_option linter.unusedVariables false
set_option linter.unusedSimpArgs false
open Go.RowKit
section
variable {P : Program} {ops : Array Oper} {C : Ctx} {Q : Exit → Act → World → Prop} {K : St → Prop}
theorem Holds.remX (X : List Nat) {ρ : Nm} {w : World} : ∀ {L : Ents} {F : Nat → Prop}, Holds ρ w L F → ∃ F', Holds ρ w (remX X L) F' ∧ ∀ b, F' b → F b
  | [], F, h => ⟨F, h, fun _ h => h⟩
  | (k, e) :: L, F, ⟨F1, F2, h1, h2, hd, hF⟩ => by
    obtain ⟨F', g1, g2⟩ := Holds.remX X h2
    unfold Go.Proofs.YtpjaidjnamngaaaGreat.remX
    split
    · exact ⟨F', g1, fun b hb => (hF b).2 (.inr (g2 b hb))⟩
    · exact ⟨fun b => F1 b ∨ F' b, ⟨F1, F', h1, g1, fun b hb hf => hd b hb (g2 b hf), fun b => Iff.rfl⟩, fun b hb => (hF b).2 (hb.imp (fun x => x) (g2 b))⟩
theorem look_remX (X : List Nat) {k : Nat} {e : Ent} : ∀ (L : Ents), look k (remX X L) = some e → look k L = some e ∧ k ∉ X
  | [], h => by cases h
  | (j, x) :: L, h => by
    unfold remX at h
    split at h
    · rename_i hj
      obtain ⟨h1, h2⟩ := look_remX X L h
      refine ⟨?_, h2⟩
      unfold look
      rw [if_neg (fun e => h2 (by subst e; simpa using hj))]; exact h1
    · rename_i hj
      unfold look at h ⊢
      split at h
      · rename_i hjk; rw [if_pos hjk]; exact ⟨h, fun hm => hj (by subst hjk; simpa using hm)⟩
      · rename_i hjk; rw [if_neg hjk]; exact look_remX X L h
/-- What a region keeps: the blocks that were frozen, or held as cells, as it began. -/
def Blk (X : List Nat) (ρ : Nm) (s : St) (b : Nat) : Prop := s.z.In b ∨ ∃ k e cs, look k s.L = some (.cells e cs) ∧ ρ[k]? = some b ∧ k ∉ X
def Keep (B : Nat → Prop) (w0 w : World) : Prop := ∀ b, B b → w.heap[b]? = w0.heap[b]?
theorem Cov.blk (X : List Nat) (ρ : Nm) (s : St) : Cov X (Blk X ρ s) ρ s := fun b h => h
structure RegI (X : List Nat) (T : List Nat) (listed : Array Bool) (ρ0 : Nm) (s0 : St) (w0 : World) (ρ : Nm) (s : St) (w : World) : Prop where
  pre : ρ0 <+: ρ
  keep : NoTail T listed → Keep (Blk X ρ0 s0) w0 w ∧ Cov X (Blk X ρ0 s0) ρ s
theorem nextL_of {i : Nat} {o : Oper} {a : Act} {w : World} (ho : ops[i]? = some o) (h : (Region.wanted o (yielded ops a.tmps) = true ∧ o.wp P a w (fun a' w' => Q .normal a' w') Q) ∨ (Region.wanted o (yielded ops a.tmps) = false ∧ Q .normal (a.put o.dst undef) w)) : NextL P ops Q i a w := by
  unfold NextL
  rw [ho]
  simp only [wpList]
  rcases h with ⟨h1, h2⟩ | ⟨h1, h2⟩
  · rw [if_pos h1]; exact .inl h2
  · rw [if_neg (by simp [h1])]; exact h2
theorem vcO_pure {kd : Kd} {o : Oper} {s0 s : St} {Kx : SV → Prop} {ρ : Nm} {a : Act} {w : World} (hs : Sat C ρ s a w) (hv : vcp (tr P o.op) s.t Kx) (hw : Region.wanted o (yielded ops a.tmps) = true) : ∃ sv v, Kx sv ∧ sv.den ρ v ∧ YieldsIf P ops (fun _ => True) o v a := by
  obtain ⟨sv, v, h1, h2, h3⟩ := vcp_sound rfl hv hs.fr
  exact ⟨sv, v, h1, h2, .inl ⟨hw, fun w _ => h3 w⟩⟩
theorem regS (X : List Nat) (hQ : Calm Q) (hsel : Region.noSelect ops = true) (T : List Nat) {s0 : St} {ρ0 : Nm} {a0 : Act} {w0 : World} (hs0 : Sat C ρ0 s0 a0 w0) (hK : ∀ s' ρ' a' w', K s' → Sat C ρ' s' a' w' → Q .normal a' w') :
    ∀ (pl : Plan) (n : Nat) (listed : Array Bool) (ir : IReg), trReg P ops T pl n listed = some ir → ∀ (s : St) (ρ : Nm) (a : Act) (w : World), vcR X P ir s0 s K → Sat C ρ s a w → RegI X T listed ρ0 s0 w0 ρ s w → Dc .any ops listed →
      wpAnyS P .any ops Q T (Keep (Blk X ρ0 s0) w0) n listed a w := by
  -- one operation that makes memory, or writes
  have memCase : ∀ (i : Nat) (r : IReg) (n : Nat) (listed : Array Bool) (o : Oper) (g : Option (Nat × Bool)) (s : St) (ρ : Nm) (a : Act) (w : World), ops[i]? = some o → gOf ops o = some g → Dc .any ops (listed.setIfInBounds i true) →
      (∀ (s : St) (ρ : Nm) (a : Act) (w : World), vcR X P r s0 s K → Sat C ρ s a w → RegI X T (listed.setIfInBounds i true) ρ0 s0 w0 ρ s w → wpAnyS P .any ops Q T (Keep (Blk X ρ0 s0) w0) n (listed.setIfInBounds i true) a w) →
      vcR X P (.op (if T.any fun j => (listed.setIfInBounds i true).getD j false then .t else .m) (tr P o.op) o.dst g r) s0 s K → Sat C ρ s a w → RegI X T listed ρ0 s0 w0 ρ s w →
      NextL P ops (RegK (IfS (Keep (Blk X ρ0 s0) w0)) (NoTail T (listed.setIfInBounds i true)) (wpAnyS P .any ops Q T (Keep (Blk X ρ0 s0) w0) n (listed.setIfInBounds i true)) Q) i a w := by
    intro i r n listed o g s ρ a w ho hg hdc hrest hv hs hI
    have hsub : NoTail T (listed.setIfInBounds i true) → NoTail T listed := fun h j hj => by
      by_cases hij : i = j
      · have := h j hj
        subst hij
        cases hl : listed.getD i false with
        | false => rfl
        | true => rw [getD_set_true hl] at this; cases this
      · have := h j hj; rwa [getD_set_ne false hij] at this
    refine nextL_of ho ?_
    rcases gOf_spec hg hs hv with ⟨hw, hv⟩ | ⟨hw, hv⟩
    · refine .inl ⟨hw, ?_⟩
      by_cases hT : (T.any fun j => (listed.setIfInBounds i true).getD j false) = true
      · rw [if_pos hT] at hv
        have hv := vcT_opT (o := o) hv
        refine Oper.wp_mono ?_ (hv C ρ a w _ hs)
        rintro a' w' ⟨s', ρ', h1, h2, h3, h4⟩
        have hno : ¬ NoTail T (listed.setIfInBounds i true) := fun h => by
          obtain ⟨j, hj, hl⟩ := List.any_eq_true.1 hT
          rw [h j hj] at hl; cases hl
        exact ⟨fun hn => absurd hn hno, hrest s' ρ' a' w' h1 h2 ⟨hI.pre.trans h3, fun hn => absurd hn hno⟩⟩
      · rw [if_neg hT] at hv
        have hv := vcM_opX (o := o) hv
        refine Oper.wp_mono ?_ (hv C ρ a w _ hs)
        rintro a' w' ⟨s', ρ', h1, h2, h3⟩
        have hkeep : NoTail T (listed.setIfInBounds i true) → Keep (Blk X ρ0 s0) w0 w' ∧ Cov X (Blk X ρ0 s0) ρ' s' := fun hn => by
          obtain ⟨k1, k2⟩ := hI.keep (hsub hn)
          obtain ⟨k3, k4⟩ := h3.keep _ k2
          exact ⟨fun b hb => (k3 b hb).trans (k1 b hb), k4⟩
        exact ⟨fun hn => (hkeep hn).1, hrest s' ρ' a' w' h1 h2 ⟨hI.pre.trans h3.pre, hkeep⟩⟩
    · refine .inr ⟨hw, ?_⟩
      have hs' : Sat C ρ ⟨stO s.t o.dst unS, s.L, s.z, s.n⟩ (a.put o.dst undef) w := hs.put o.dst rfl
      exact ⟨fun hn => (hI.keep (hsub hn)).1, hrest _ ρ _ w hv hs' ⟨hI.pre, fun hn => hI.keep (hsub hn)⟩⟩
  intro pl
  induction pl with
  | done =>
    intro n listed ir h s ρ a w hv hs hI hdc
    simp only [trReg] at h
    split at h
    · rename_i hr
      injection h with h
      subst h
      exact wpAnyS_end n (by simpa using hr) (hK s ρ a w hv hs)
    · cases h
  | pure i ld r ih =>
    intro n listed ir h s ρ a w hv hs hI hdc
    cases n with
    | zero => simp [trReg] at h
    | succ n =>
      simp only [trReg] at h
      split at h
      · rename_i o ho
        split at h
        · rename_i g hg
          split at h
          · rename_i hc
            split at h
            · rename_i r' hr'
              injection h with h
              subst h
              simp only [Bool.and_eq_true, Bool.not_eq_true', List.contains_iff_mem] at hc
              obtain ⟨⟨⟨hready, hfree⟩, hiT⟩, hl⟩ := hc
              have hiT : i ∉ T := fun hm => by rw [← List.contains_iff_mem] at hm; rw [hm] at hiT; cases hiT
              have hdc' := hdc.set hready
              have hNT : NoTail T (listed.setIfInBounds i true) → NoTail T listed := fun h => (noTail_set hiT).1 h
              have hIn : ∀ (t' : List SV), RegI X T (listed.setIfInBounds i true) ρ0 s0 w0 ρ ⟨t', s.L, s.z, s.n⟩ w := fun t' => ⟨hI.pre, fun hn => hI.keep (hNT hn)⟩
              have hS : NoTail T listed → Keep (Blk X ρ0 s0) w0 w := fun hn => (hI.keep hn).1
              cases ld with
              | false =>
                have key : ∃ sv v, vcR X P r' s0 ⟨stO s.t o.dst sv, s.L, s.z, s.n⟩ K ∧ sv.den ρ v ∧ YieldsIf P ops (fun _ => True) o v a := by
                  rcases gOf_spec hg hs hv with ⟨hw, hv⟩ | ⟨hw, hv⟩
                  · exact vcO_pure (kd := .p) (s0 := s0) hs hv hw
                  · exact ⟨unS, undef, hv, rfl, .inr ⟨hw, rfl⟩⟩
                obtain ⟨sv, v, k1, k2, k3⟩ := key
                exact wpAnyS_firstY ho (Region.noSelect_spec hsel) hQ hiT n listed a w (Region.free_spec ho hfree) hready k3 hS (ih n _ r' hr' _ ρ _ w k1 (hs.put o.dst k2) (hIn _) hdc')
              | true =>
                have hreach : (T.all fun j => reach .any ops ops.size i j) = true := by simpa using hl
                have hSw := hS (noTail_of hdc hreach (mem_ready.1 hready).1)
                have key : ∃ sv v, vcR X P r' s0 ⟨stO s.t o.dst sv, s.L, s.z, s.n⟩ K ∧ sv.den ρ v ∧ YieldsIf P ops (Keep (Blk X ρ0 s0) w0) o v a := by
                  rcases gOf_spec hg hs hv with ⟨hw, hv⟩ | ⟨hw, hv⟩
                  · simp only [if_true, vcO] at hv
                    split at hv
                    · rename_i x sz agg hi
                      obtain ⟨ty, m, h1, h2, rfl⟩ := tr_ld hi
                      have hm0 : Mem C ρ s0.z (remX X s0.L) w0 := by
                        obtain ⟨F, f1, f2⟩ := hs0.mem
                        obtain ⟨F', g1, g2⟩ := (f1.ext hI.pre).remX X
                        exact ⟨F', g1, ⟨f2.os, f2.tape, f2.output, f2.size, f2.zsize, f2.frz, fun b hb => f2.dis b (g2 b hb), f2.unt, fun b hb => f2.own b (g2 b hb), f2.zin, f2.zle⟩⟩
                      obtain ⟨sv, v, b, k1, k2, k3, k4⟩ := vcl_spec (G := s0.z.In) (fun A o vs hn hr => hm0.rd hr hn) hv h2 hs.fr hm0
                      refine ⟨sv, v, k1, k2, .inl ⟨hw, fun w1 hS1 => ?_⟩⟩
                      unfold execOp
                      simp only [h1]
                      refine run_v (k4 w1 (hS1 b ?_))
                      rcases k3 with k3 | ⟨k, e, cs, k3, k5⟩
                      · exact .inl k3
                      · obtain ⟨k6, k7⟩ := look_remX X s0.L k3
                        refine .inr ⟨k, e, cs, k6, ?_, k7⟩
                        obtain ⟨b', vs, g1, _⟩ := hs0.mem.cells k6
                        have := pre_get hI.pre g1
                        rw [k5] at this; injection this with this; rw [this]; exact g1
                    · exact hv.elim
                  · exact ⟨unS, undef, hv, rfl, .inr ⟨hw, rfl⟩⟩
                obtain ⟨sv, v, k1, k2, k3⟩ := key
                exact wpAnyS_first ho (Region.noSelect_spec hsel) hQ hiT hreach n listed a w hdc (Region.free_spec ho hfree) hready k3 hS (ih n _ r' hr' _ ρ _ w k1 (hs.put o.dst k2) (hIn _) hdc')
            · cases h
          · cases h
        · cases h
      · cases h
  | mem i r ih =>
    intro n listed ir h s ρ a w hv hs hI hdc
    cases n with
    | zero => simp [trReg] at h
    | succ n =>
      simp only [trReg] at h
      split at h
      · rename_i o ho
        split at h
        · rename_i g hg
          split at h
          · rename_i hr
            split at h
            · rename_i r' hr'
              injection h with h
              subst h
              have hr : Region.ready .any ops listed = [i] := by simpa using hr
              exact wpAnyS_mem (n + 1) rfl rfl hr hdc fun hdc' => memCase i r' n listed o g s ρ a w ho hg hdc' (fun s ρ a w hv hs hI => ih n _ r' hr' s ρ a w hv hs hI hdc') hv hs hI
            · cases h
          · cases h
        · cases h
      · cases h
  | alt i j ri rj ihi ihj =>
    intro n listed ir h s ρ a w hv hs hI hdc
    cases n with
    | zero => simp [trReg] at h
    | succ n =>
      simp only [trReg] at h
      split at h
      · rename_i oi oj hoi hoj
        split at h
        · rename_i gi gj hgi hgj
          split at h
          · rename_i hr
            split at h
            · rename_i ra rb hra hrb
              injection h with h
              subst h
              have hr : Region.ready .any ops listed = [i, j] := by simpa using hr
              exact wpAnyS_mem2 (n + 1) rfl rfl rfl hr hdc
                (fun hdc' => memCase i ra n listed oi gi s ρ a w hoi hgi hdc' (fun s ρ a w hv hs hI => ihi n _ ra hra s ρ a w hv hs hI hdc') hv.1 hs hI)
                (fun hdc' => memCase j rb n listed oj gj s ρ a w hoj hgj hdc' (fun s ρ a w hv hs hI => ihj n _ rb hrb s ρ a w hv hs hI hdc') hv.2 hs hI)
            · cases h
          · cases h
        · cases h
      · cases h
  | alt3 i j k ri rj rk ihi ihj ihk =>
    intro n listed ir h s ρ a w hv hs hI hdc
    cases n with
    | zero => simp [trReg] at h
    | succ n =>
      simp only [trReg] at h
      split at h
      · rename_i oi oj ok hoi hoj hok
        split at h
        · rename_i gi gj gk hgi hgj hgk
          split at h
          · rename_i hr
            split at h
            · rename_i ra rb rc hra hrb hrc
              injection h with h
              subst h
              have hr : Region.ready .any ops listed = [i, j, k] := by simpa using hr
              exact wpAnyS_mem3 (n + 1) rfl rfl rfl rfl hr hdc
                (fun hdc' => memCase i ra n listed oi gi s ρ a w hoi hgi hdc' (fun s ρ a w hv hs hI => ihi n _ ra hra s ρ a w hv hs hI hdc') hv.1 hs hI)
                (fun hdc' => memCase j rb n listed oj gj s ρ a w hoj hgj hdc' (fun s ρ a w hv hs hI => ihj n _ rb hrb s ρ a w hv hs hI hdc') hv.2.1 hs hI)
                (fun hdc' => memCase k rc n listed ok gk s ρ a w hok hgk hdc' (fun s ρ a w hv hs hI => ihk n _ rc hrc s ρ a w hv hs hI hdc') hv.2.2 hs hI)
            · cases h
          · cases h
        · cases h
      · cases h
theorem seqS : ∀ (l : List Oper) (ir : IReg), trSeq P ops l = some ir → ∀ (X : List Nat) (s0 s : St) (ρ : Nm) (a : Act) (w : World), vcR X P ir s0 s K → Sat C ρ s a w → (∀ s' ρ' a' w', K s' → Sat C ρ' s' a' w' → Q .normal a' w') → wpList P ops Q l a w
  | [], ir, h, X, s0, s, ρ, a, w, hv, hs, hK => by
    injection h with h
    subst h
    exact hK s ρ a w hv hs
  | o :: l, ir, h, X, s0, s, ρ, a, w, hv, hs, hK => by
    unfold trSeq at h
    split at h
    · rename_i g r hg hr
      injection h with h
      subst h
      simp only [wpList]
      rcases gOf_spec hg hs hv with ⟨hw, hv⟩ | ⟨hw, hv⟩
      · rw [if_pos hw]
        refine .inl (Oper.wp_mono ?_ (vcT_opT (o := o) hv C ρ a w _ hs))
        rintro a' w' ⟨s', ρ', h1, h2, _⟩
        exact seqS l r hr X s0 s' ρ' a' w' h1 h2 hK
      · rw [if_neg (by simp [hw])]
        exact seqS l r hr X s0 _ ρ _ w hv (hs.put o.dst rfl) hK
    · cases h
end
/-! Code. -/
inductive IC where
  | skip
  | reg (xs : List Tmp) (r : IReg)
  | join (xs : List Tmp) (r : IReg)
  | seq (a b : IC)
  | cond (c : Operand) (a b : IC)
  | block (id : Nat) (b : IC)
  | loop (b : IC)
  | exit (id : Nat)
  | ret
/-- The blocks are looked at from another side. -/
def VS (s : St) (G : St → Prop) : Prop := ∀ C ρ a w, Sat C ρ s a w → ∃ s' ρ', G s' ∧ Sat C ρ' s' a w
def plainE : Exit → Prop
  | .panic _ => False
  | .outgrown => False
  | _ => True
def Qof (C : Ctx) (K : Exit → St → Prop) (e : Exit) (a : Act) (w : World) : Prop := plainE e ∧ ∃ s ρ, K e s ∧ Sat C ρ s a w
theorem Qof.calm (C : Ctx) (K : Exit → St → Prop) : Calm (Qof C K) := fun d v c a w h => h.1.elim
def hasAlt : IReg → Bool
  | .done => false
  | .op _ _ _ _ r => hasAlt r
  | .alt _ _ => true
def trC (P : Program) (pl : List FuncId) : Code → Option IC
  | .skip => some .skip
  | .region id ops draw => if draw then
      if Region.noSelect ops && P.follows .mixedOrders then
        match trReg P ops (planOf P pl ops).2.1 (planOf P pl ops).2.2 ops.size (Array.replicate ops.size false) with
        | some r => some (if hasAlt r then .join (planOf P pl ops).1 r else .reg (planOf P pl ops).1 r)
        | none => none
      else none
    else match trSeq P ops ops.toList with
      | some r => some (.reg [] r)
      | none => none
  | .seq a b => match trC P pl a, trC P pl b with
    | some x, some y => some (.seq x y)
    | _, _ => none
  | .cond c a b => match trC P pl a, trC P pl b with
    | some x, some y => some (.cond c x y)
    | _, _ => none
  | .block id b => match trC P pl b with
    | some x => some (.block id x)
    | none => none
  | .loop b => match trC P pl b with
    | some x => some (.loop x)
    | none => none
  | .exit id => some (.exit id)
  | .ret => some .ret
  | _ => none
def loopV (P : Program) (ic : IC) (s : St) (K : Exit → St → Prop) : Prop := ∀ pl c, trC P pl c = some ic → ∀ C ρ a w, Sat C ρ s a w → (Code.loop c).wp P (Qof C K) a w
/-- What meets again behind a region of two orders. -/
def joinV (r : IReg) (s : St) (V : (St → Prop) → Prop) (K : St → Prop) : Prop := ∃ J : St → Prop, V J ∧ ∀ s', J s' → K s'
def vcI (P : Program) : IC → St → (Exit → St → Prop) → Prop
  | .skip, s, K => K .normal s
  | .reg xs r, s, K => vcR (xnm s.t xs) P r s s (K .normal)
  | .join xs r, s, K => joinV r s (vcR (xnm s.t xs) P r s s) (K .normal)
  | .seq a b, s, K => vcI P a s fun e s' => match e with
    | .normal => VS s' fun s'' => vcI P b s'' K
    | e => K e s'
  | .cond c a b, s, K => match ev s.t c with
    | .c (.v (.bool q)) => (q = true → vcI P a s K) ∧ (q = false → vcI P b s K)
    | _ => False
  | .block id b, s, K => vcI P b s fun e s' => match e with
    | .exit id' => if id' = id then K .normal s' else K (.exit id') s'
    | e => K e s'
  | .loop b, s, K => loopV P b s K
  | .exit id, s, K => K (.exit id) s
  | .ret, s, K => K .ret s
section
variable {P : Program}
theorem vcI_sound {pl : List FuncId} : ∀ (c : Code) (ic : IC), trC P pl c = some ic → ∀ (s : St) (K : Exit → St → Prop) (C : Ctx) (ρ : Nm) (a : Act) (w : World), vcI P ic s K → Sat C ρ s a w → c.wp P (Qof C K) a w
  | .skip, ic, h, s, K, C, ρ, a, w, hv, hs => by
    injection h with h; subst h
    exact wp_skip ⟨trivial, s, ρ, hv, hs⟩
  | .region id ops draw, ic, h, s, K, C, ρ, a, w, hv, hs => by
    simp only [trC] at h
    split at h
    · rename_i hdraw
      subst hdraw
      generalize (planOf P pl ops).1 = xs at h
      generalize (planOf P pl ops).2.1 = T at h
      generalize (planOf P pl ops).2.2 = p at h
      split at h
      · rename_i hc
        simp only [Bool.and_eq_true] at hc
        split at h
        · rename_i r hr
          injection h with h
          · have key : ∀ (K' : St → Prop), (∀ s', K' s' → K .normal s') → vcR (xnm s.t xs) P r s s K' → (Code.region id ops true).wp P (Qof C K) a w := fun K' hK' hv' => by
              have hsd : Sat C ρ s a w.drew := ⟨hs.df, hs.fr, hs.nm, hs.mem.drew⟩
              refine wp_regionS (S := Keep (Blk (xnm s.t xs) ρ s) w.drew) T hc.2 (fun _ _ => rfl) fun hd hN => ?_
              exact regS (xnm s.t xs) (Qof.calm C K) hc.1 T hsd (fun s' ρ' a' w' hk hs' => ⟨trivial, s', ρ', hK' s' hk, hs'⟩) p ops.size _ r hr s ρ a w.drew hv' hsd ⟨List.prefix_rfl, fun _ => ⟨fun _ _ => rfl, Cov.blk _ ρ s⟩⟩ hd
            split at h
            · subst h
              obtain ⟨J, h1, h2⟩ := hv
              exact key J h2 h1
            · subst h
              exact key _ (fun _ h => h) hv
        · cases h
      · cases h
    · rename_i hdraw
      have hdraw : draw = false := by simpa using hdraw
      subst hdraw
      split at h
      · rename_i r hr
        injection h with h
        subst h
        refine wp_region ?_
        have e : wpOps P ops (Qof C K) (List.range ops.size) = wpList P ops (Qof C K) ops.toList := by
          have := wpOps_eq_wpList (P := P) (ops := ops) (Q := Qof C K) ops.toList 0 (fun j => by simp)
          rw [← this, List.range_eq_range']; simp
        rw [e]
        exact seqS ops.toList r hr _ s s ρ a w hv hs fun s' ρ' a' w' hk hs' => ⟨trivial, s', ρ', hk, hs'⟩
      · cases h
  | .seq x y, ic, h, s, K, C, ρ, a, w, hv, hs => by
    simp only [trC] at h
    split at h
    · rename_i ix iy hx hy
      injection h with h; subst h
      refine wp_seq (wp_mono (vcI_sound x ix hx s _ C ρ a w hv hs) ?_)
      rintro e a' w' ⟨hp, s', ρ', hk, hs'⟩
      cases e with
      | normal =>
        obtain ⟨s'', ρ'', g1, g2⟩ := hk C ρ' a' w' hs'
        exact vcI_sound y iy hy s'' K C ρ'' a' w' g1 g2
      | exit id => exact ⟨hp, s', ρ', hk, hs'⟩
      | goto l => exact ⟨hp, s', ρ', hk, hs'⟩
      | ret => exact ⟨hp, s', ρ', hk, hs'⟩
      | panic c => exact hp.elim
      | outgrown => exact hp.elim
    · cases h
  | .cond c x y, ic, h, s, K, C, ρ, a, w, hv, hs => by
    simp only [trC] at h
    split at h
    · rename_i ix iy hx hy
      injection h with h; subst h
      have hc := ev_den hs.fr c
      simp only [vcI] at hv
      split at hv
      · rename_i q he
        rw [he] at hc
        have hc : a.eval c = .bool q := hc
        exact wp_cond_split hc (fun hq => vcI_sound x ix hx s K C ρ a w (hv.1 hq) hs) (fun hq => vcI_sound y iy hy s K C ρ a w (hv.2 hq) hs)
      · exact hv.elim
    · cases h
  | .block id b, ic, h, s, K, C, ρ, a, w, hv, hs => by
    simp only [trC] at h
    split at h
    · rename_i ib hb
      injection h with h; subst h
      refine wp_block (wp_mono (vcI_sound b ib hb s _ C ρ a w hv hs) ?_)
      rintro e a' w' ⟨hp, s', ρ', hk, hs'⟩
      cases e with
      | exit id' =>
        simp only [Exit.inBlock] at hk ⊢
        by_cases hid : id' = id
        · rw [if_pos hid] at hk ⊢; exact ⟨trivial, s', ρ', hk, hs'⟩
        · rw [if_neg hid] at hk ⊢; exact ⟨trivial, s', ρ', hk, hs'⟩
      | normal => exact ⟨hp, s', ρ', hk, hs'⟩
      | goto l => exact ⟨hp, s', ρ', hk, hs'⟩
      | ret => exact ⟨hp, s', ρ', hk, hs'⟩
      | panic c => exact hp.elim
      | outgrown => exact hp.elim
    · cases h
  | .loop b, ic, h, s, K, C, ρ, a, w, hv, hs => by
    simp only [trC] at h
    split at h
    · rename_i ib hb
      injection h with h; subst h
      exact hv pl b hb C ρ a w hs
    · cases h
  | .exit id, ic, h, s, K, C, ρ, a, w, hv, hs => by
    injection h with h; subst h
    exact wp_exit ⟨trivial, s, ρ, hv, hs⟩
  | .ret, ic, h, s, K, C, ρ, a, w, hv, hs => by
    injection h with h; subst h
    exact wp_ret ⟨trivial, s, ρ, hv, hs⟩
  | .rangeFunc .., ic, h, _, _, _, _, _, _, _, _ => by cases h
  | .scope _, ic, h, _, _, _, _, _, _, _, _ => by cases h
  | .label _, ic, h, _, _, _, _, _, _, _, _ => by cases h
  | .goto _, ic, h, _, _, _, _, _, _, _, _ => by cases h
  | .refuse _, ic, h, _, _, _, _, _, _, _, _ => by cases h
end
end Go.Proofs.YtpjaidjnamngaaaGreat
