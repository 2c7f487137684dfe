/- What the reference's HexText does: two signs for each byte. -/
import Derived.Test.YtohmnedenhngpaaDoorHexI
import Derived.Deep.QuietTactic
import Derived.BigQuiet
import Derived.IntWalk
set_option linter.unusedVariables false
set_option linter.unusedSimpArgs false
namespace Go.Proofs.YtohmnedenhngpaaDoor
open Go.Shelf Go.RowKit Go.Proofs.YtohmnedenhngpaaDoorW.PrintWords
def hex16 : ByteArray := ⟨#[48, 49, 50, 51, 52, 53, 54, 55, 56, 57, 97, 98, 99, 100, 101, 102]⟩
theorem hex16_cut (n : Int) (h0 : 0 ≤ n) (h1 : n < 16) : hex16.extract n.toNat (n + 1).toNat = ⟨#[hxd n]⟩ := by
  obtain ⟨m, rfl⟩ := Int.eq_ofNat_of_zero_le h0
  have key : ∀ m : Fin 16, (hex16.extract (m.val : Int).toNat ((m.val : Int) + 1).toNat).data = #[hxd m.val] := by decide
  have := key ⟨m, by omega⟩
  exact ByteArray.ext this
theorem hex16_slice (n : Int) (h0 : 0 ≤ n) (h1 : n < 16) (W : World) : (Instr.slice 9 (.string ⟨#[48, 49, 50, 51, 52, 53, 54, 55, 56, 57, 97, 98, 99, 100, 101, 102]⟩) (some (.int .u8 n)) (some (.int .u8 (n + 1))) none).run Tryd.prog W = .ok (.string ⟨#[hxd n]⟩) W := by
  have h := run_slice_string (P := Tryd.prog) (w := W) 9 hex16 .u8 .u8 n (n + 1) Tryd.underlying9 h0 (by omega) (by show n + 1 ≤ 16; omega)
  rw [← hex16_cut n h0 h1]
  exact h
def spec_HexText.f (l0 : List Int) : Option ByteArray := if (∀ x ∈ l0, 0 ≤ x ∧ x ≤ 255) ∧ l0.length ≤ 140737488355328 then some ⟨(hexL l0).toArray⟩ else none
set_option maxHeartbeats 4000000 in
set_option maxRecDepth 100000 in
theorem spec_HexText.calls (A0 : Option Addr) (c0 : Nat) (l0 : List Int) (r : ByteArray) (w : World) (hr0 : Kd.C (Kd.int .u8) w A0 l0.length l0) (hc0 : l0.length ≤ c0) (h : spec_HexText.f l0 = some r) :
    Calls Tryd.prog 18 #[.slice A0 l0.length c0] w fun e w' => e = .returned (.string r) ∧ Drawn0 w w' := by
  unfold spec_HexText.f at h
  by_cases hh : (∀ x ∈ l0, 0 ≤ x ∧ x ≤ 255) ∧ l0.length ≤ 140737488355328
  · rw [if_pos hh] at h
    obtain rfl := Option.some.inj h
    clear h
    have HR := Aside0.mk hr0; clear hr0
    have HX := Aside0.mk hh.1
    have hl := hh.2; clear hh
    go_enter Tryd.func18, Tryd.ntmps18
    go_wp2
    go_loopw [3, 4] (fun s i wr => ∃ k : Nat, k ≤ l0.length ∧ i = .int .i64 k ∧ s = .string ⟨(hexL (l0.take k)).toArray⟩ ∧ Drawn0 w wr) (fun _ i _ => l0.length - (intOf i).toNat)
    case atStart => exact ⟨0, by omega, rfl, rfl, Drawn0.refl _⟩
    case round =>
      obtain ⟨k, hk, rfl, rfl, ⟨m, rfl⟩⟩ := hrel
      by_cases hlt : k < l0.length
      · obtain ⟨ad, e1, hx⟩ := Kd.at_int HR.out k (by omega) (by omega)
        subst e1
        obtain ⟨b, hb⟩ : ∃ b, b = rd l0 k := ⟨_, rfl⟩
        have hr := HX.out (rd l0 k) (by simp [rd, List.getD_eq_getElem?_getD, List.getElem?_eq_getElem hlt])
        rw [← hb] at hx hr
        simp only [Int.toNat_natCast] at hx
        have h0 : 0 ≤ b := hr.1
        have h1 : b ≤ 255 := hr.2
        have HB := Aside0.mk hb; clear hb hr
        have s1 := hex16_slice (b / 16) (by omega) (by omega)
        have s2 := hex16_slice (b % 16) (by omega) (by omega)
        have e3 : (⟨(hexL (l0.take k)).toArray⟩ : ByteArray).size = 2 * k := by
          show (hexL (l0.take k)).toArray.size = _
          rw [List.size_toArray, hexL_length, List.length_take]; omega
        have l1 : (⟨(hexL (l0.take k)).toArray⟩ : ByteArray).size + 1 ≤ 9223372036854775807 := by omega
        go_wp2
        go_quiet (fail)
        clear s1 s2 e3 l1
        have e5 : (⟨(hexL (l0.take k)).toArray⟩ ++ ⟨#[hxd (b / 16)]⟩ ++ ⟨#[hxd (b % 16)]⟩ : ByteArray) = ⟨(hexL (l0.take (k + 1))).toArray⟩ := by
          rw [hexL_take l0 k hlt, ← HB.out]
          apply ByteArray.ext
          simp
        rw [e5]
        clear e5
        go_wp2
        go_roundw
        case rel => exact ⟨k + 1, by omega, by go_num, rfl, ⟨_, rfl⟩⟩
        case measure => simp [intOf]; omega
      · obtain rfl : k = l0.length := by omega
        rw [List.take_length]
        go_wp2
        go_ret
        exact ⟨rfl, ⟨_, rfl⟩⟩
  · rw [if_neg hh] at h; cases h
end Go.Proofs.YtohmnedenhngpaaDoor
