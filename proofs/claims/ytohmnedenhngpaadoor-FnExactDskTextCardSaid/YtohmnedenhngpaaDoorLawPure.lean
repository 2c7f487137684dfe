/- What the law of DskText asks of lists. -/
import Derived.Test.YtohmnedenhngpaaDoorPFnExactDskTextBx1
set_option linter.unusedVariables false
set_option linter.unusedSimpArgs false
namespace Go.Proofs.YtohmnedenhngpaaDoor.Pure
open Go.RowKit Go.Proofs.YtohmnedenhngpaaDoor.PFnExactDskTextB Go.Proofs.YtohmnedenhngpaaDoorW.PrintWords Go.Proofs.YtohmnedenhngpaaDoorW.PrintLast
theorem wrap_id {i : Int} (h0 : -9223372036854775808 ≤ i) (h : i ≤ 9223372036854775807) : wrap64 i = i := by
  unfold wrap64; omega
theorem rd_lt (l : List Int) (i : Nat) (h : i < l.length) : rd l (i : Int) = l[i] := by
  simp [rd, List.getD_eq_getElem?_getD, List.getElem?_eq_getElem h]

theorem eqByteS_l (a b : List Int) (he : a.length = b.length) (hl : a.length ≤ 140737488355328) (d : Nat) : ∀ i : Nat, a.length - i = d → i ≤ a.length → Ev (fun k => laws_eqByteS.l0 k a b (i : Int)) (decide (a.drop i = b.drop i)) := by
  induction d with
  | zero =>
    intro i hd hi
    refine Ev.step (fun _ => rfl) ?_
    simp only [laws_eqByteS.l0]
    simp only [if_neg (show ¬ ((i : Int) < (a.length : Int)) by omega)]
    rw [List.drop_of_length_le (by omega), List.drop_of_length_le (by omega)]
    exact Ev.now _
  | succ d ih =>
    intro i hd hi
    refine Ev.step (fun _ => rfl) ?_
    simp only [laws_eqByteS.l0]
    simp only [if_pos (show (i : Int) < (a.length : Int) by omega), if_pos (show (0 : Int) ≤ (i : Int) by omega), if_pos (show (i : Int) < (b.length : Int) by omega)]
    rw [rd_lt a i (by omega), rd_lt b i (by omega), List.drop_eq_getElem_cons (show i < a.length by omega), List.drop_eq_getElem_cons (show i < b.length by omega)]
    by_cases h : a[i] = b[i]
    · simp only [if_pos h]
      rw [wrap_id (by omega) (by omega)]
      have := ih (i + 1) (by omega) (by omega)
      have e : decide (a[i] :: List.drop (i + 1) a = b[i] :: List.drop (i + 1) b) = decide (List.drop (i + 1) a = List.drop (i + 1) b) := by simp only [h, List.cons.injEq, true_and]
      rw [e]
      exact this
    · simp only [if_neg h]
      have e : decide (a[i] :: List.drop (i + 1) a = b[i] :: List.drop (i + 1) b) = false := decide_eq_false (fun hh => h (List.cons.inj hh).1)
      rw [e]
      exact Ev.now _
theorem eqByteS_ev (a b : List Int) (hl : a.length ≤ 140737488355328) : Ev (fun k => laws_eqByteS.f k a b) (decide (a = b)) := by
  unfold laws_eqByteS.f
  by_cases he : a.length = b.length
  · simp only [if_pos (show (a.length : Int) = (b.length : Int) by omega)]
    exact eqByteS_l a b he hl _ 0 rfl (by omega)
  · simp only [if_neg (show ¬ (a.length : Int) = (b.length : Int) by omega)]
    have e : decide (a = b) = false := decide_eq_false (fun h => he (by rw [h]))
    rw [e]
    exact Ev.now _

theorem toByteS_l (a : List Int) (hl : a.length ≤ 140737488355328) (d : Nat) : ∀ (i : Nat) (x : List Int), a.length - i = d → i ≤ a.length → x.length = a.length → x.take i = a.take i →
    Ev (fun k => laws_toByteS.l0 k a x (i : Int)) a := by
  induction d with
  | zero =>
    intro i x hd hi hx ht
    refine Ev.step (fun _ => rfl) ?_
    simp only [laws_toByteS.l0]
    simp only [if_neg (show ¬ ((i : Int) < (a.length : Int)) by omega)]
    rw [List.take_of_length_le (by omega), List.take_of_length_le (by omega)] at ht
    rw [ht]
    exact Ev.now _
  | succ d ih =>
    intro i x hd hi hx ht
    refine Ev.step (fun _ => rfl) ?_
    simp only [laws_toByteS.l0]
    simp only [if_pos (show (i : Int) < (a.length : Int) by omega), if_pos (show (0 : Int) ≤ (i : Int) by omega), if_pos (show (i : Int) < (x.length : Int) by omega), Int.toNat_natCast]
    rw [wrap_id (by omega) (by omega), rd_lt a i (by omega)]
    have := ih (i + 1) (x.set i a[i]) (by omega) (by omega) (by simpa using hx) (by
      rw [List.take_succ_eq_append_getElem (by simp; omega), List.take_set_of_le (Nat.le_refl _), ht, List.getElem_set_self, List.take_succ_eq_append_getElem (by omega)])
    exact this
theorem toByteS_ev (a : List Int) (hl : a.length ≤ 140737488355328) : Ev (fun k => laws_toByteS.f k a) a := by
  unfold laws_toByteS.f
  simp only [if_pos (show (0 : Int) ≤ (a.length : Int) by omega), Int.toNat_natCast, if_pos (show a.length ≤ 281474976710656 by omega)]
  exact toByteS_l a hl _ 0 (List.replicate a.length 0) rfl (by omega) List.length_replicate rfl

theorem sz_eq (k who at_ v : Int) (l : List Int) (hl : l.length ≤ 9223372036854775807) : laws_szEvEvent.f k who at_ v l 1048576 = some (if 1048576 < l.length then -1 else 1048576 - (l.length : Int)) := by
  unfold laws_szEvEvent.f laws_szByteS.f
  rw [wrap_id (by omega) (by omega)]
  by_cases h : 1048576 < l.length
  · rw [if_pos (show (1048576 : Int) - (l.length : Int) < 0 by omega), if_pos h]; rfl
  · rw [if_neg (show ¬ (1048576 : Int) - (l.length : Int) < 0 by omega), if_neg h, Option.bind_some, if_neg (show ¬ (1048576 : Int) - (l.length : Int) < 0 by omega)]
theorem toEv_ev (k who at_ v : Int) (l : List Int) (hl : l.length ≤ 140737488351232) : Ev (fun n => laws_toEvEvent.f n k who at_ v l) (k, who, at_, v, l) := by
  unfold laws_toEvEvent.f
  refine Ev.bind (toByteS_ev l (by omega)) ?_
  exact Ev.now _
theorem eqEv_ev (k who at_ v : Int) (l : List Int) (hl : l.length ≤ 140737488351232) : Ev (fun n => laws_eqEvEvent.f n k who at_ v l k who at_ v l) true := by
  unfold laws_eqEvEvent.f
  simp only [if_true]
  refine Ev.bind (eqByteS_ev l l (by omega)) ?_
  simp only [decide_true, if_true]
  exact Ev.now _

end Go.Proofs.YtohmnedenhngpaaDoor.Pure
