/- HexRead reads bytes as the reference does: for every text. -/
import Derived.Test.YtohmnedenhngpaaPFnExactHexReadx2
set_option linter.unusedVariables false
set_option linter.unusedSimpArgs false
namespace Go.Proofs.Ytohmnedenhngpaa.Pure
open Go.RowKit Go.Proofs.Ytohmnedenhngpaa.PFnExactHexRead Go.Proofs.YtohmnedenhngpaaW.PrintWords Go.Proofs.YtohmnedenhngpaaW.PrintLast

theorem wrap_id {i : Int} (h0 : -9223372036854775808 ≤ i) (h : i ≤ 9223372036854775807) : wrap64 i = i := by
  unfold wrap64; omega
theorem rd_lt (l : List Int) (i : Nat) (h : i < l.length) : rd l (i : Int) = l[i] := by
  simp [rd, List.getD_eq_getElem?_getD, List.getElem?_eq_getElem h]

theorem eqByteS_l (a b : List Int) (he : a.length = b.length) (hl : a.length ≤ 140737488355328) (d : Nat) : ∀ i : Nat, a.length - i = d → i ≤ a.length → Ev (fun k => laws_eqByteS.l0 k a b (i : Int)) (decide (a.drop i = b.drop i)) := by
  induction d with
  | zero =>
    intro i hd hi
    refine Ev.step (fun _ => rfl) ?_
    simp only [laws_eqByteS.l0]
    simp only [if_neg (show ¬ ((i : Int) < (a.length : Int)) by omega)]
    rw [List.drop_of_length_le (by omega), List.drop_of_length_le (by omega)]
    exact Ev.now _
  | succ d ih =>
    intro i hd hi
    refine Ev.step (fun _ => rfl) ?_
    simp only [laws_eqByteS.l0]
    simp only [if_pos (show (i : Int) < (a.length : Int) by omega), if_pos (show (0 : Int) ≤ (i : Int) by omega), if_pos (show (i : Int) < (b.length : Int) by omega)]
    rw [rd_lt a i (by omega), rd_lt b i (by omega), List.drop_eq_getElem_cons (show i < a.length by omega), List.drop_eq_getElem_cons (show i < b.length by omega)]
    by_cases h : a[i] = b[i]
    · simp only [if_pos h]
      rw [wrap_id (by omega) (by omega)]
      have := ih (i + 1) (by omega) (by omega)
      have e : decide (a[i] :: List.drop (i + 1) a = b[i] :: List.drop (i + 1) b) = decide (List.drop (i + 1) a = List.drop (i + 1) b) := by simp only [h, List.cons.injEq, true_and]
      rw [e]
      exact this
    · simp only [if_neg h]
      have e : decide (a[i] :: List.drop (i + 1) a = b[i] :: List.drop (i + 1) b) = false := decide_eq_false (fun hh => h (List.cons.inj hh).1)
      rw [e]
      exact Ev.now _
theorem eqByteS_ev (a b : List Int) (hl : a.length ≤ 140737488355328) : Ev (fun k => laws_eqByteS.f k a b) (decide (a = b)) := by
  unfold laws_eqByteS.f
  by_cases he : a.length = b.length
  · simp only [if_pos (show (a.length : Int) = (b.length : Int) by omega)]
    exact eqByteS_l a b he hl _ 0 rfl (by omega)
  · simp only [if_neg (show ¬ (a.length : Int) = (b.length : Int) by omega)]
    have e : decide (a = b) = false := decide_eq_false (fun h => he (by rw [h]))
    rw [e]
    exact Ev.now _

def marks (n : Nat) (k : Int) : List Int := (List.range n).map fun j : Nat => (k + (j : Int)) % 256
theorem marks_succ (n : Nat) (k : Int) : marks (n + 1) k = k % 256 :: marks n (k + 1) := by
  simp only [marks, List.range_succ_eq_map, List.map_cons, List.map_map]
  congr 1
  · simp
  · apply List.map_congr_left; intro a _; simp; omega
theorem markByteS_l (a : List Int) (k : Int) (h0 : 0 ≤ k) (hk : k + a.length ≤ 9223372036854775807) (d : Nat) : ∀ (i : Nat) (a' : List Int), a'.length = a.length → a.length - i = d → i ≤ a.length → a'.take i = marks i k →
    Ev (fun n => laws_markByteS.l0 n a' (k + i) (i : Int)) (k + a.length, marks a.length k) := by
  induction d with
  | zero =>
    intro i a' hl hd hi ht
    refine Ev.step (fun _ => rfl) ?_
    simp only [laws_markByteS.l0]
    simp only [if_neg (show ¬ ((i : Int) < (a'.length : Int)) by omega)]
    obtain rfl : i = a.length := by omega
    rw [List.take_of_length_le (by omega)] at ht
    rw [ht]
    exact Ev.now _
  | succ d ih =>
    intro i a' hl hd hi ht
    refine Ev.step (fun _ => rfl) ?_
    simp only [laws_markByteS.l0]
    simp only [if_pos (show (i : Int) < (a'.length : Int) by omega), if_pos (show (0 : Int) ≤ (i : Int) by omega)]
    rw [wrap_id (i := (i : Int) + 1) (by omega) (by omega), wrap_id (i := k + (i : Int) + 1) (by omega) (by omega)]
    have := ih (i + 1) (a'.set ((i : Int).toNat) ((k + i) % 256)) (by simpa using hl) (by omega) (by omega) (by
      simp only [Int.toNat_natCast]
      rw [List.take_succ_eq_append_getElem (by simp; omega), List.take_set_of_le (Nat.le_refl _), ht, List.getElem_set_self]
      simp only [marks, List.range_succ, List.map_append, List.map_cons, List.map_nil])
    have e : k + (i : Int) + 1 = k + ((i + 1 : Nat) : Int) := by omega
    rw [e]
    exact this
theorem markByteS_ev (a : List Int) (k : Int) (h0 : 0 ≤ k) (hk : k + a.length ≤ 9223372036854775807) : Ev (fun n => laws_markByteS.f n a k) (k + a.length, marks a.length k) := by
  unfold laws_markByteS.f
  have := markByteS_l a k h0 hk a.length 0 a rfl (by omega) (by omega) (by simp [marks])
  simpa using this
theorem marks_length (n : Nat) (k : Int) : (marks n k).length = n := by simp [marks]
theorem heldByteS_l (m : Nat) (k : Int) (h0 : 0 ≤ k) (hk : k + m ≤ 9223372036854775807) (d : Nat) : ∀ (i : Nat), m - i = d → i ≤ m →
    Ev (fun n => laws_heldByteS.l0 n (marks m k) (k + i) (i : Int)) (k + m) := by
  induction d with
  | zero =>
    intro i hd hi
    refine Ev.step (fun _ => rfl) ?_
    simp only [laws_heldByteS.l0]
    simp only [if_neg (show ¬ ((i : Int) < ((marks m k).length : Int)) by rw [marks_length]; omega)]
    obtain rfl : i = m := by omega
    exact Ev.now _
  | succ d ih =>
    intro i hd hi
    refine Ev.step (fun _ => rfl) ?_
    simp only [laws_heldByteS.l0]
    have hr : rd (marks m k) i = (k + i) % 256 := by rw [rd_lt _ _ (by rw [marks_length]; omega)]; simp [marks]
    simp only [if_pos (show (i : Int) < ((marks m k).length : Int) by rw [marks_length]; omega), if_pos (show (0 : Int) ≤ (i : Int) by omega), hr, if_true]
    rw [wrap_id (i := (i : Int) + 1) (by omega) (by omega), wrap_id (i := k + (i : Int) + 1) (by omega) (by omega)]
    have := ih (i + 1) (by omega) (by omega)
    have e : k + (i : Int) + 1 = k + ((i + 1 : Nat) : Int) := by omega
    rw [e]
    exact this
theorem heldByteS_ev (m : Nat) (k : Int) (h0 : 0 ≤ k) (hk : k + m ≤ 9223372036854775807) : Ev (fun n => laws_heldByteS.f n (marks m k) k) (k + m) := by
  unfold laws_heldByteS.f
  have := heldByteS_l m k h0 hk m 0 (by omega) (by omega)
  simpa using this

theorem l10Digit_ev (c : Int) (h0 : 0 ≤ c) (h1 : c ≤ 255) : Ev (fun k => spec_l10Digit.f k c) (hexDig c) := by
  unfold spec_l10Digit.f hexDig
  by_cases ha : 48 ≤ c ∧ c ≤ 57
  · simp only [if_pos ha, if_pos (show c ≥ 48 from ha.1)]
    refine Ev.step (fun _ => rfl) ?_
    simp only [spec_l10Digit.j0, decide_eq_true ha.2, if_true]
    have : (c - 48) % 256 = c - 48 := by omega
    rw [this]
    exact Ev.now _
  · simp only [if_neg ha]
    have key : Ev (fun k => spec_l10Digit.j0 k c false) (if 97 ≤ c ∧ c ≤ 102 then c - 87 else -1) := by
      refine Ev.step (fun _ => rfl) ?_
      simp only [spec_l10Digit.j0, Bool.false_eq_true, if_false]
      by_cases hb : c ≥ 97
      · simp only [if_pos hb]
        by_cases hc : c ≤ 102
        · simp only [if_pos hc, if_pos (show 97 ≤ c ∧ c ≤ 102 from ⟨hb, hc⟩)]
          have : (c - 97) % 256 + 10 = c - 87 := by omega
          rw [this]
          exact Ev.now _
        · simp only [if_neg hc, if_neg (show ¬ (97 ≤ c ∧ c ≤ 102) from fun h => hc h.2)]
          exact Ev.now _
      · simp only [if_neg hb, if_neg (show ¬ (97 ≤ c ∧ c ≤ 102) from fun h => hb h.1)]
        exact Ev.now _
    by_cases hb : c ≥ 48
    · simp only [if_pos hb]
      rw [show decide (c ≤ 57) = false from decide_eq_false (by omega)]
      exact key
    · simp only [if_neg hb]
      exact key
theorem specHexRead_l (s : ByteArray) (n : Nat) (hn : s.size = 2 * n) (hs : s.size ≤ 140737488351232) (d : Nat) : ∀ (i : Nat) (l : List Int), n - i = d → i ≤ n → hexRL s i = some l →
    Ev (fun k => spec_HexRead.l0 k s l (2 * i : Int)) (match hexRL s n with | some l => (l, true) | none => ([], false)) := by
  induction d with
  | zero =>
    intro i l hd hi hl
    obtain rfl : i = n := by omega
    refine Ev.step (fun _ => rfl) ?_
    simp only [spec_HexRead.l0]
    simp only [if_neg (show ¬ ((2 * i : Int) < (s.size : Int)) by omega), hl]
    exact Ev.now _
  | succ d ih =>
    intro i l hd hi hl
    refine Ev.step (fun _ => rfl) ?_
    simp only [spec_HexRead.l0]
    rw [wrap_id (i := (2 * i : Int) + 1) (by omega) (by omega)]
    simp only [if_pos (show (2 * i : Int) < (s.size : Int) by omega), if_pos (show (0 : Int) ≤ 2 * i by omega), if_pos (show (0 : Int) ≤ 2 * i + 1 by omega), if_pos (show (2 * i : Int) + 1 < (s.size : Int) by omega)]
    have b1 := bt_range s (2 * i)
    have b2 := bt_range s (2 * i + 1)
    refine Ev.bind (l10Digit_ev _ b1.1 b1.2) (Ev.bind (l10Digit_ev _ b2.1 b2.2) ?_)
    have d1 := hexDig_le (bt s (2 * i))
    have d2 := hexDig_le (bt s (2 * i + 1))
    have hlen := hexRL_length s i l hl
    have hnext : hexRL s (i + 1) = if hexDig (bt s (2 * i)) < 0 ∨ hexDig (bt s (2 * i + 1)) < 0 then none else some (l ++ [16 * hexDig (bt s (2 * i)) + hexDig (bt s (2 * i + 1))]) := by
      rw [hexRL, hl]; rfl
    by_cases c1 : hexDig (bt s (2 * i)) < 0
    · simp only [if_pos c1]
      rw [if_pos (.inl c1)] at hnext
      rw [hexRL_none s _ hnext n (by omega)]
      exact Ev.now _
    · simp only [if_neg c1]
      by_cases c2 : hexDig (bt s (2 * i + 1)) < 0
      · simp only [if_pos c2]
        rw [if_pos (.inr c2)] at hnext
        rw [hexRL_none s _ hnext n (by omega)]
        exact Ev.now _
      · simp only [if_neg c2, if_pos (show l.length < 140737488355328 by omega)]
        rw [if_neg (by omega)] at hnext
        rw [wrap_id (i := hexDig (bt s (2 * i)) * 16) (by omega) (by omega), wrap_id (by omega) (by omega), wrap_id (by omega) (by omega)]
        have e1 : (hexDig (bt s (2 * i)) * 16 + hexDig (bt s (2 * i + 1))) % 256 = 16 * hexDig (bt s (2 * i)) + hexDig (bt s (2 * i + 1)) := by omega
        have e2 : (2 * i : Int) + 2 = 2 * ((i + 1 : Nat) : Int) := by omega
        rw [e1, e2]
        exact ih (i + 1) _ (by omega) (by omega) hnext
theorem specHexRead_ev (s : ByteArray) (hs : s.size ≤ 140737488351232) : Ev (fun k => spec_HexRead.f k s) (hexRd s) := by
  unfold spec_HexRead.f
  simp only [Option.bind_some]
  unfold hexRd
  by_cases h : s.size % 2 = 0
  · simp only [if_neg (show ¬ ((s.size : Int) % 2 = 1) by omega), if_pos h]
    exact specHexRead_l s (s.size / 2) (by omega) hs _ 0 [] rfl (by omega) rfl
  · simp only [if_pos (show ((s.size : Int) % 2 = 1) by omega), if_neg h]
    exact Ev.now _
theorem hexRd_len (s : ByteArray) : (hexRd s).1.length ≤ s.size := by
  unfold hexRd
  split
  · split
    · rename_i l h; have := hexRL_length s _ l h; simp only; omega
    · simp
  · simp

theorem FnExactHexRead : laws_FnExactHexRead.Pure := by
  intro s hs
  refine Ev.rounds (g := fun k => laws_FnExactHexRead.f k s) ?_
  unfold laws_FnExactHexRead.f
  by_cases hbig : (s.size : Int) > 1048576
  · simp only [if_pos hbig]; exact Ev.now _
  · simp only [if_neg hbig]
    refine Ev.bind (specHexRead_ev s hs) ?_
    have hi : impl_HexRead.f s = some (hexRd s) := by unfold impl_HexRead.f; rw [if_pos hs]
    have hlen := hexRd_len s
    simp only [hi, Option.bind_some]
    refine Ev.bind (eqByteS_ev _ _ (by omega)) ?_
    simp only [decide_true, if_true, bne_self_eq_false]
    refine Ev.step (fun _ => rfl) ?_
    simp only [laws_FnExactHexRead.j0, Bool.false_eq_true, if_false]
    refine Ev.bind (markByteS_ev _ 1 (by omega) (by omega)) ?_
    simp only
    refine Ev.bind (heldByteS_ev _ 1 (by omega) (by omega)) ?_
    simp only [if_neg (show ¬ ((1 : Int) + ((hexRd s).1.length : Int) < 0) by omega), if_true, hi, Option.bind_some]
    refine Ev.bind (eqByteS_ev _ _ (by omega)) ?_
    simp only [decide_true, if_true, bne_self_eq_false]
    refine Ev.step (fun _ => rfl) ?_
    simp only [laws_FnExactHexRead.j1, Bool.false_eq_true, if_false]
    refine Ev.bind (heldByteS_ev _ 1 (by omega) (by omega)) ?_
    simp only [if_neg (show ¬ ((1 : Int) + ((hexRd s).1.length : Int) < 0) by omega), if_true]
    exact Ev.now _

end Go.Proofs.Ytohmnedenhngpaa.Pure
