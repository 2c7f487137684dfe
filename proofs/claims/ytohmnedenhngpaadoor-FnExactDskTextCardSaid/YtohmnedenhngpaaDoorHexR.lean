/- What the program's HexRead does: two digits for each byte; none, if a sign is no digit. -/
import Derived.Test.YtohmnedenhngpaaDoorHexI
import Derived.Shelf.Small.Strs
import Derived.Deep.QuietTactic
import Derived.BigQuiet
import Derived.IntWalk
set_option linter.unusedVariables false
set_option linter.unusedSimpArgs false
namespace Go.Proofs.YtohmnedenhngpaaDoor
open Go.Shelf Go.RowKit Go.Proofs.YtohmnedenhngpaaDoorW.PrintWords
def iRen : Ren where
  f := fun n => match n with | 137 => 44 | 217 => 57 | 266 => 70 | _ => 0
  t := fun n => match n with | 3 => 3 | 5 => 5 | 9 => 9 | 4 => 4 | _ => 0
  g := fun n => n
theorem iLays : Lays.n137 Tryd.prog iRen := by constructor <;> first | kernel_rfl | (intro _w; kernel_rfl) | (intro _w; rfl)
def hexDig (c : Int) : Int := if 48 ≤ c ∧ c ≤ 57 then c - 48 else if 97 ≤ c ∧ c ≤ 102 then c - 87 else -1
set_option maxRecDepth 100000 in
theorem indexByte_hex (c : Int) (h0 : 0 ≤ c) (h1 : c ≤ 255) : Lib.indexByte (⟨#[48, 49, 50, 51, 52, 53, 54, 55, 56, 57, 97, 98, 99, 100, 101, 102]⟩ : ByteArray).data.toList c.toNat.toUInt8 = hexDig c := by
  obtain ⟨m, rfl⟩ := Int.eq_ofNat_of_zero_le h0
  have key : ∀ m : Fin 256, Lib.indexByte (⟨#[48, 49, 50, 51, 52, 53, 54, 55, 56, 57, 97, 98, 99, 100, 101, 102]⟩ : ByteArray).data.toList (m.val : Int).toNat.toUInt8 = hexDig m.val := by decide
  exact key ⟨m, by omega⟩
theorem indexByte_calls (c : Int) (w : World) (h0 : 0 ≤ c) (h1 : c ≤ 255) :
    Calls Tryd.prog 44 #[.string ⟨#[48, 49, 50, 51, 52, 53, 54, 55, 56, 57, 97, 98, 99, 100, 101, 102]⟩, .int .u8 c] w fun e w' => e = .returned (.int .i64 (hexDig c)) ∧ w' = w :=
  (Any.strings_IndexByte iLays _ c w).mono fun e w' h => by rw [indexByte_hex c h0 h1] at h; exact h
theorem indexByte_u8 (x : UInt8) (w : World) :
    Calls Tryd.prog 44 #[.string ⟨#[48, 49, 50, 51, 52, 53, 54, 55, 56, 57, 97, 98, 99, 100, 101, 102]⟩, .int .u8 (x.toNat : Int)] w fun e w' => e = .returned (.int .i64 (hexDig (x.toNat : Int))) ∧ w' = w :=
  indexByte_calls _ _ (by omega) (by have := x.toNat_lt; omega)
theorem hexDig_le (c : Int) : -1 ≤ hexDig c ∧ hexDig c ≤ 15 := by unfold hexDig; split <;> (try split) <;> omega
def hexRL (s : ByteArray) : Nat → Option (List Int)
  | 0 => some []
  | k + 1 => (hexRL s k).bind fun l => if hexDig (bt s (2 * k)) < 0 ∨ hexDig (bt s (2 * k + 1)) < 0 then none else some (l ++ [16 * hexDig (bt s (2 * k)) + hexDig (bt s (2 * k + 1))])
theorem hexRL_none (s : ByteArray) (k : Nat) (h : hexRL s k = none) : ∀ n, k ≤ n → hexRL s n = none := by
  intro n hn
  induction n with
  | zero => obtain rfl : k = 0 := by omega
            exact h
  | succ n ih =>
    by_cases e : k = n + 1
    · subst e; exact h
    · rw [hexRL, ih (by omega)]; rfl
theorem hexRL_length (s : ByteArray) : ∀ k l, hexRL s k = some l → l.length = k := by
  intro k
  induction k with
  | zero => intro l h; cases h; rfl
  | succ k ih =>
    intro l h
    rw [hexRL] at h
    obtain ⟨l', h1, h2⟩ := Option.bind_eq_some_iff.mp h
    split at h2
    · cases h2
    · cases h2; simp [ih l' h1]
def hexRd (s : ByteArray) : List Int × Bool := if s.size % 2 = 0 then (match hexRL s (s.size / 2) with | some l => (l, true) | none => ([], false)) else ([], false)
def impl_HexRead.f (a0 : ByteArray) : Option (List Int × Bool) := if a0.size ≤ 140737488351232 then some (hexRd a0) else none
set_option maxHeartbeats 4000000 in
set_option maxRecDepth 100000 in
theorem impl_HexRead.calls (a0 : ByteArray) (r1 : List Int) (r2 : Bool) (w : World) (h : impl_HexRead.f a0 = some (r1, r2)) :
    Calls Tryd.prog 33 #[.string a0] w fun e w' => ∃ v0_ : Value, e = .returned (.tuple #[v0_, .bool r2]) ∧ Kd.R (Kd.int .u8) 5 w' w.heap.size (fun _ => True) v0_ r1 ∧ Below w.heap.size w w' := by
  unfold impl_HexRead.f at h
  by_cases hh : a0.size ≤ 140737488351232
  · rw [if_pos hh] at h
    have h' := Option.some.inj h
    clear h
    by_cases h2 : a0.size % 2 = 0
    · obtain ⟨n, hn⟩ : ∃ n, a0.size = 2 * n := ⟨a0.size / 2, by omega⟩
      have hd : hexRd a0 = match hexRL a0 n with | some l => (l, true) | none => ([], false) := by
        unfold hexRd; rw [if_pos h2]; have : a0.size / 2 = n := by omega
        rw [this]
      rw [hd] at h'
      have H := Aside0.mk h'; clear h' hd
      have e1 : ((a0.size : Int) % 2 != 0) = false := by
        have : (a0.size : Int) % 2 = 0 := by omega
        rw [this]; rfl
      have e2 : (a0.size : Int) / 2 = n := by omega
      have hm := print_make (P := Tryd.prog) 22 5 .u8 1 Tryd.underlying22 (by kernel_rfl) (by omega) n (by omega)
      have hs := own_made w w.heap.size 5 .u8 n (Nat.le_refl _) (by omega)
      have HS := Aside0.mk (Kd.R_of_own (h1 := fun _ => rfl) (enc := Value.int .u8) (xs := List.replicate n 0) (ok := fun _ => True) (by simpa [encs, nums] using hs) (fun _ _ => trivial))
      clear hs
      have HN := Aside0.mk hn; clear hn
      go_enter Tryd.func33, Tryd.ntmps33
      go_wp2
      clear hm
      go_loopw [18] (fun i wr => ∃ (k : Nat) (l : List Int), k ≤ n ∧ i = .int .i64 k ∧ Aside0 (hexRL a0 k = some l) ∧ Aside0 (Kd.R (Kd.int .u8) 5 wr w.heap.size (fun _ => True) (.slice (some ⟨w.heap.size, 0, none⟩) n n) (l ++ List.replicate (n - k) 0)) ∧ Aside0 (Below w.heap.size w wr)) (fun i _ => n - (intOf i).toNat)
      case atStart => exact ⟨0, [], by omega, rfl, ⟨rfl⟩, ⟨HS.out⟩, ⟨(Below.refl _ _).alloc (Nat.le_refl _) _⟩⟩
      case round =>
        obtain ⟨k, l, hk, rfl, HL, HR, HB⟩ := hrel
        by_cases hlt : k < n
        · have g1 : 2 * k < a0.size := by have := HN.out; omega
          have g2 : 2 * k + 1 < a0.size := by have := HN.out; omega
          clear e1 e2
          have w1 : IntKind.i64.wrap (2 * (k : Int)) = 2 * (k : Int) := IntWalk.i64_in _ (by omega)
          have w2 : IntKind.i64.wrap (2 * (k : Int) + 1) = 2 * (k : Int) + 1 := IntWalk.i64_in _ (by omega)
          have p1 : 0 ≤ 2 * (k : Int) := by omega
          have p2 : 0 ≤ 2 * (k : Int) + 1 := by omega
          have q1 : 2 * (k : Int) < (a0.size : Int) := by omega
          have q2 : 2 * (k : Int) + 1 < (a0.size : Int) := by omega
          have t1 : (2 * (k : Int)).toNat = 2 * k := by omega
          have t2 : (2 * (k : Int) + 1).toNat = 2 * k + 1 := by omega
          obtain ⟨x1, ex1⟩ : ∃ z, a0[2 * k]'g1 = z := ⟨_, rfl⟩
          obtain ⟨x2, ex2⟩ : ∃ z, a0[2 * k + 1]'g2 = z := ⟨_, rfl⟩
          obtain ⟨hi, ehi⟩ : ∃ z, hexDig (x1.toNat : Int) = z := ⟨_, rfl⟩
          obtain ⟨lo, elo⟩ : ∃ z, hexDig (x2.toNat : Int) = z := ⟨_, rfl⟩
          have b1 : hexDig (bt a0 (2 * k)) = hi := by rw [← bt_at a0 (2 * k) (by omega), ← ehi]; simp only [t1, ex1]
          have b2 : hexDig (bt a0 (2 * k + 1)) = lo := by rw [← bt_at a0 (2 * k + 1) (by omega), ← elo]; simp only [t2, ex2]
          have hb1 := hexDig_le (bt a0 (2 * k)); rw [b1] at hb1
          have hb2 := hexDig_le (bt a0 (2 * k + 1)); rw [b2] at hb2
          have HS1 := Aside0.mk (show hexRL a0 (k + 1) = if hi < 0 ∨ lo < 0 then none else some (l ++ [16 * hi + lo]) by rw [hexRL, HL.out, Option.bind_some, b1, b2])
          clear b1 b2
          go_wp2
          go_quiet ((go_at_call 44; exact Calls.quiet_of_same (indexByte_u8 _ _)))
          rw [ehi, elo]
          clear ehi elo ex1 ex2 w1 w2 p1 p2 q1 q2 t1 t2
          by_cases hd : hi < 0 ∨ lo < 0
          · have hs := HS1.out
            rw [if_pos hd] at hs
            have hH := H.out
            rw [hexRL_none a0 _ hs n (by omega)] at hH
            cases hH
            have HB' := HB.out
            rcases hd with hd | hd
            · have d1 : decide (hi < 0) = true := decide_eq_true hd
              go_wp2
              exact bodyPost_ret (v := .tuple #[.slice none 0 0, .bool false]) (by simp [results, Tryd.results33, go_sem]) rfl ⟨_, rfl, Kd.R_nil _ _ _ _ _, pw_below_drewN HB' _⟩
            · by_cases hd' : hi < 0
              · have d1 : decide (hi < 0) = true := decide_eq_true hd'
                go_wp2
                exact bodyPost_ret (v := .tuple #[.slice none 0 0, .bool false]) (by simp [results, Tryd.results33, go_sem]) rfl ⟨_, rfl, Kd.R_nil _ _ _ _ _, pw_below_drewN HB' _⟩
              · have d1 : decide (hi < 0) = false := decide_eq_false hd'
                have d2 : decide (lo < 0) = true := decide_eq_true hd
                go_wp2
                exact bodyPost_ret (v := .tuple #[.slice none 0 0, .bool false]) (by simp [results, Tryd.results33, go_sem]) rfl ⟨_, rfl, Kd.R_nil _ _ _ _ _, pw_below_drewN HB' _⟩
          · have d1 : decide (hi < 0) = false := decide_eq_false (by omega)
            have d2 : decide (lo < 0) = false := decide_eq_false (by omega)
            have hp : 0 ≤ hi ∧ 0 ≤ lo := by omega
            have hs := HS1.out
            rw [if_neg hd] at hs
            have HS2 := Aside0.mk hs; clear hs
            obtain ⟨hc, hf⟩ := Kd.R_celln (h1 := fun _ => rfl) (enc := Value.int .u8) 0 HR.out k (by omega) (by omega)
            simp only [Int.toNat_natCast] at hc hf
            have hlen := hexRL_length a0 k l HL.out
            have hset : (l ++ List.replicate (n - k) (0 : Int)).set k (16 * hi + lo) = (l ++ [16 * hi + lo]) ++ List.replicate (n - (k + 1)) 0 := by
              obtain ⟨m, hm⟩ : ∃ m, n - k = m + 1 := ⟨n - k - 1, by omega⟩
              have hm' : n - (k + 1) = m := by omega
              rw [hm, hm', ← hlen, List.replicate_succ, List.set_append_right _ _ (Nat.le_refl _)]
              simp
            have hP := Kd.R_putn (h1 := fun _ => rfl) (enc := Value.int .u8) HR.out k (16 * hi + lo)
            simp only [Int.toNat_natCast] at hP
            rw [hset] at hP
            have HP := Aside0.mk hP
            clear hP hset hlen
            go_wp2
            go_roundw
            case rel => exact ⟨k + 1, _, by omega, by go_num, ⟨HS2.out⟩, ⟨HP.out⟩, ⟨below_set (pw_below_drewN HB.out _) (Nat.le_refl _)⟩⟩
            case measure => simp [intOf]; omega
        · obtain rfl : k = n := by omega
          have hH := H.out
          rw [HL.out] at hH
          cases hH
          go_wp2
          exact bodyPost_ret (v := .tuple #[.slice (some ⟨w.heap.size, 0, none⟩) k k, .bool true]) (by simp [results, Tryd.results33, go_sem]) rfl ⟨_, rfl, by have h := HR.out; simpa using h, HB.out⟩
    · have hd : hexRd a0 = ([], false) := by unfold hexRd; rw [if_neg h2]
      rw [hd] at h'
      cases h'
      have e1 : ((a0.size : Int) % 2 != 0) = true := by
        have : (a0.size : Int) % 2 = 1 := by omega
        rw [this]; rfl
      go_enter Tryd.func33, Tryd.ntmps33
      go_wp2
      exact bodyPost_ret (v := .tuple #[.slice none 0 0, .bool false]) (by simp [results, Tryd.results33, go_sem]) rfl ⟨_, rfl, Kd.R_nil _ _ _ _ _, Below.refl _ _⟩
  · rw [if_neg hh] at h; cases h
end Go.Proofs.YtohmnedenhngpaaDoor
