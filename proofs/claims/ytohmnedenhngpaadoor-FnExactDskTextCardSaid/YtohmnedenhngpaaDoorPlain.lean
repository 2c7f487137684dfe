/- What the reference's small functions of lines do. -/
import Derived.Test.YtohmnedenhngpaaDoorDskI
import Derived.Test.YtohmnedenhngpaaDoorHexS
import Derived.Test.YtohmnedenhngpaaDoorPFnExactDskTextx1
set_option linter.unusedVariables false
set_option linter.unusedSimpArgs false
namespace Go.Proofs.YtohmnedenhngpaaDoor
open Go.Shelf Go.RowKit Go.Proofs.YtohmnedenhngpaaDoorW.PrintWords Go.Proofs.YtohmnedenhngpaaDoorW.PrintLast Go.Proofs.YtohmnedenhngpaaDoor.PFnExactDskText
theorem wrap_id {i : Int} (h0 : -9223372036854775808 ≤ i) (h : i ≤ 9223372036854775807) : wrap64 i = i := by
  unfold wrap64; omega
theorem l10Plain_lt10 (n : Int) (h0 : 0 ≤ n) (h1 : n ≤ 9) (x : ByteArray) (hx : x.size ≤ 100000) : Ev (fun k => spec_l10Plain.l0 k n x) (itoaB n ++ x) := by
  refine Ev.step (fun _ => rfl) ?_
  simp only [spec_l10Plain.l0]
  simp only [if_neg (show ¬ n > 9 by omega), Option.bind_some]
  rw [wrap_id (by omega) (by omega), show (48 + n) % 256 = 48 + n by omega]
  have e : strOfNums [48 + n] = itoaB n := by
    unfold strOfNums itoaB
    rw [Lib.decDigits, dif_pos (by omega)]
    simp only [List.map_cons, List.map_nil]
    rw [show (48 + n).toNat = 48 + n.toNat by omega]
  rw [e]
  have := itoaB_size n (by omega)
  simp only [if_pos (show (itoaB n).size + x.size ≤ 9223372036854775807 by omega)]
  exact Ev.now _
theorem bapp (a b c : ByteArray) : a ++ b ++ c = a ++ (b ++ c) := by
  simp [ByteArray.append_assoc]
theorem itoaB_split (n : Int) (h0 : 10 ≤ n) : itoaB n = itoaB (n / 10) ++ strOfNums [48 + n % 10] := by
  unfold itoaB strOfNums
  rw [Lib.decDigits, dif_neg (by omega)]
  rw [show (n / 10).toNat = n.toNat / 10 by omega]
  simp only [List.map_cons, List.map_nil]
  rw [show (48 + n % 10).toNat = 48 + n.toNat % 10 by omega]
  apply ByteArray.ext
  simp
theorem l10Plain_step (n : Int) (h0 : 10 ≤ n) (h1 : n < 1000) (x : ByteArray) (hx : x.size ≤ 90000) (h : ∀ y : ByteArray, y.size ≤ x.size + 1 → Ev (fun k => spec_l10Plain.l0 k (n / 10) y) (itoaB (n / 10) ++ y)) : Ev (fun k => spec_l10Plain.l0 k n x) (itoaB n ++ x) := by
  refine Ev.step (fun _ => rfl) ?_
  simp only [spec_l10Plain.l0]
  have e1 : Int.tmod n 10 = n % 10 := Int.tmod_eq_emod_of_nonneg (by omega)
  have e2 : Int.tdiv n 10 = n / 10 := Int.tdiv_eq_ediv_of_nonneg (by omega)
  rw [e1, e2]
  simp only [if_pos (show n > 9 by omega), Option.bind_some]
  rw [wrap_id (by omega) (by omega), show (48 + n % 10) % 256 = 48 + n % 10 by omega, wrap_id (by omega) (by omega)]
  have hs : (strOfNums [48 + n % 10]).size = 1 := rfl
  simp only [if_pos (show (strOfNums [48 + n % 10]).size + x.size ≤ 9223372036854775807 by omega)]
  rw [itoaB_split n h0, bapp]
  exact h _ (by rw [ByteArray.size_append, hs]; omega)
theorem l10Plain_ev (n : Int) (h0 : 0 ≤ n) (h1 : n < 1000) : Ev (fun k => spec_l10Plain.f k n) (itoaB n) := by
  unfold spec_l10Plain.f
  have a1 : ∀ m : Int, 0 ≤ m → m < 10 → ∀ y : ByteArray, y.size ≤ 100000 → Ev (fun k => spec_l10Plain.l0 k m y) (itoaB m ++ y) := fun m g0 g1 y hy => l10Plain_lt10 m g0 (by omega) y hy
  have e0 : itoaB n = itoaB n ++ (⟨#[]⟩ : ByteArray) := by apply ByteArray.ext; simp
  rw [e0]
  by_cases c1 : n < 10
  · exact a1 n h0 c1 _ (by decide)
  · refine l10Plain_step n (by omega) h1 _ (by decide) (fun y hy => ?_)
    by_cases c2 : n / 10 < 10
    · exact a1 _ (by omega) c2 y (Nat.le_trans hy (by decide))
    · have hy' : y.size ≤ 1 := hy
      exact l10Plain_step (n / 10) (by omega) (by omega) y (by omega) (fun z hz => a1 _ (by omega) (by omega) z (by omega))
theorem l10Plain_c (i : Int) (h0 : 0 ≤ i) (h1 : i < 1000) (w : World) : Calls Tryd.prog 17 #[.int .i64 i] w fun e w' => e = .returned (.string (itoaB i)) ∧ Below w.heap.size w w' := by
  obtain ⟨k, hk⟩ := (l10Plain_ev i h0 h1).rounds
  exact spec_l10Plain.calls k i _ w hk
set_option maxRecDepth 100000 in
theorem l1In_c (a b c : Int) (w : World) : Calls Tryd.prog 15 #[.int .i64 a, .int .i64 b, .int .i64 c] w fun e w' => e = .returned (.bool (decide (b ≤ a ∧ a ≤ c))) ∧ w' = w := by
  by_cases h1 : b ≤ a <;> by_cases h2 : a ≤ c
  all_goals
    go_enter Tryd.func15, Tryd.ntmps15
    go_wp2
    go_ret
    exact ⟨by simp [h1, h2], rfl⟩
set_option maxRecDepth 100000 in
theorem l2Bit_c (b : Bool) (w : World) : Calls Tryd.prog 19 #[.bool b] w fun e w' => e = .returned (.int .i64 (if b = true then 1 else 0)) ∧ w' = w := by
  cases b
  all_goals
    go_enter Tryd.func19, Tryd.ntmps19
    go_wp2
    go_ret
    exact ⟨rfl, rfl⟩
def evObj : Obj := .cells (evWords.map Value.string).toArray 9 (0, 0)
set_option maxRecDepth 100000 in
theorem l10Names_c (w : World) : Calls Tryd.prog 16 #[] w fun e w' => e = .returned (.slice (some ⟨w.heap.size, 0, none⟩) 12 12) ∧ w' = w.alloc evObj := by
  go_enter Tryd.func16, Tryd.ntmps16
  go_wp2
  go_ret
  exact ⟨rfl, rfl⟩
theorem hexTextS_c (A : Option Addr) (c : Nat) (l : List Int) (w : World) (hr : Kd.C (Kd.int .u8) w A l.length l) (hc : l.length ≤ c) (hl : ∀ x ∈ l, 0 ≤ x ∧ x ≤ 255) (h24 : l.length ≤ 24) : Calls Tryd.prog 18 #[.slice A l.length c] w fun e w' => e = .returned (.string (hexB l)) ∧ Below w.heap.size w w' :=
  (spec_HexText.calls A c l (hexB l) w hr hc (by unfold spec_HexText.f; rw [if_pos ⟨hl, by omega⟩]; rfl)).mono fun e w' h => ⟨h.1, by obtain ⟨n, h2⟩ := h.2; rw [h2]; exact below_drewN (Below.refl _ _) n⟩
end Go.Proofs.YtohmnedenhngpaaDoor
