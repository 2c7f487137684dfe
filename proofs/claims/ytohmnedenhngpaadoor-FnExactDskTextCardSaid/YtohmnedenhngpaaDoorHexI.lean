/- What the program's HexText does: two digits for each byte. -/
import Derived.Test.YtohmnedenhngpaaDoorBuilder
import Derived.Test.YtohmnedenhngpaaDoorWWords
import Derived.Test.YtohmnedenhngpaaDoorWMore
set_option linter.unusedVariables false
set_option linter.unusedSimpArgs false
namespace Go.Proofs.YtohmnedenhngpaaDoor
open Go.Shelf Go.RowKit Go.Proofs.YtohmnedenhngpaaDoorW.PrintWords
def hxd (n : Int) : UInt8 := if n < 10 then (48 + n.toNat).toUInt8 else (87 + n.toNat).toUInt8
def hexL (l : List Int) : List UInt8 := l.flatMap fun b => [hxd (b / 16), hxd (b % 16)]
theorem hexL_take (l : List Int) (k : Nat) (h : k < l.length) : hexL (l.take (k + 1)) = hexL (l.take k) ++ [hxd (rd l k / 16), hxd (rd l k % 16)] := by
  unfold hexL
  rw [List.take_succ_eq_append_getElem h, List.flatMap_append]
  simp [rd, List.getD_eq_getElem?_getD, List.getElem?_eq_getElem h]
theorem hexL_length (l : List Int) : (hexL l).length = 2 * l.length := by
  induction l with
  | nil => rfl
  | cons a t ih => simp only [hexL, List.flatMap_cons, List.length_append, List.length_cons, List.length_nil] at ih ⊢; omega
def impl_HexText.f (l0 : List Int) : Option ByteArray := if (∀ x ∈ l0, 0 ≤ x ∧ x ≤ 255) ∧ l0.length * 2 ≤ 140737488355328 then some ⟨(hexL l0).toArray⟩ else none
theorem hex_digits (n : Int) (h0 : 0 ≤ n) (h1 : n < 16) : ∀ h : n.toNat < (⟨#[48, 49, 50, 51, 52, 53, 54, 55, 56, 57, 97, 98, 99, 100, 101, 102]⟩ : ByteArray).size, ((⟨#[48, 49, 50, 51, 52, 53, 54, 55, 56, 57, 97, 98, 99, 100, 101, 102]⟩ : ByteArray)[n.toNat]'h) = hxd n := by
  intro h
  obtain ⟨m, rfl⟩ := Int.eq_ofNat_of_zero_le h0
  have hm : m < 16 := by omega
  have key : ∀ m : Fin 16, (⟨#[48, 49, 50, 51, 52, 53, 54, 55, 56, 57, 97, 98, 99, 100, 101, 102]⟩ : ByteArray)[m.val]'(m.2) = hxd m.val := by decide
  exact key ⟨m, hm⟩
set_option maxHeartbeats 4000000 in
set_option maxRecDepth 100000 in
theorem impl_HexText.calls (A0 : Option Addr) (c0 : Nat) (l0 : List Int) (r : ByteArray) (w : World) (hr0 : Kd.C (Kd.int .u8) w A0 l0.length l0) (hc0 : l0.length ≤ c0) (h : impl_HexText.f l0 = some r) :
    Calls Tryd.prog 23 #[.slice A0 l0.length c0] w fun e w' => e = .returned (.string r) ∧ Below w.heap.size w w' := by
  unfold impl_HexText.f at h
  by_cases hh : (∀ x ∈ l0, 0 ≤ x ∧ x ≤ 255) ∧ l0.length * 2 ≤ 140737488355328
  · rw [if_pos hh] at h
    obtain rfl := Option.some.inj h
    clear h
    have HR := Aside0.mk hr0; clear hr0
    have HX := Aside0.mk hh.1
    have hl := hh.2; clear hh
    go_enter Tryd.func23, Tryd.ntmps23
    go_wp2
    go_loopw [8] (fun i wr => ∃ k : Nat, k ≤ l0.length ∧ i = .int .i64 k ∧ Aside0 (Lib.IsBuilderF 57 5 w.heap.size w.heap.size (Lib.byteCells (hexL (l0.take k))) wr) ∧ Aside0 (Below w.heap.size w wr)) (fun i _ => l0.length - (intOf i).toNat)
    case atStart => exact ⟨0, by omega, rfl, ⟨.inl ⟨Nat.le_refl _, .slice none 0 0, by first | exact blk_new _ _ | trace_state, ⟨rfl, .inl ⟨rfl, rfl⟩⟩, by simp [Value.ownBlock]⟩⟩, ⟨(Below.refl _ _).alloc (Nat.le_refl _) _⟩⟩
    case round =>
      obtain ⟨k, hk, rfl, HI, HB⟩ := hrel
      by_cases hlt : k < l0.length
      · obtain ⟨ad, e1, hx⟩ := Kd.at_int HR.out k (by omega) (by omega)
        subst e1
        have hx1 := pw_cell_below HB.out hx
        have hr := HX.out (rd l0 k) (by simp [rd, List.getD_eq_getElem?_getD, List.getElem?_eq_getElem hlt])
        obtain ⟨b, hb⟩ : ∃ b, b = rd l0 k := ⟨_, rfl⟩
        rw [← hb] at hx hx1 hr
        simp only [Int.toNat_natCast] at hx hx1
        have h0 : 0 ≤ b := hr.1
        have h1 : b ≤ 255 := hr.2
        have hb' := Aside0.mk hb; clear hb hr
        have hlen : (Lib.byteCells (hexL (l0.take k))).length + 1 ≤ 140737488355328 := by
          simp only [Lib.byteCells, List.length_map, hexL_length, List.length_take]; omega
        have HL := Aside0.mk hlen; clear hlen
        have H1 := Aside0.mk (hex_digits (b / 16) (by omega) (by omega))
        have H2 := Aside0.mk (hex_digits (b % 16) (by omega) (by omega))
        go_wp2_with ((go_at_call 38; refine (bWriteByte w.heap.size _ _ _ _ HI.out HL.out HB.out.size).mono ?_; rintro e w1 ⟨rfl, hi1, hb1, hok⟩; clear hok; have HI1 := Aside0.mk hi1; have HB1 := Aside0.mk (HB.out.trans hb1); clear hi1 hb1 HI HB))
        have hlen : ∀ x : Value, (Lib.byteCells (hexL (l0.take k)) ++ [x]).length + 1 ≤ 140737488355328 := by
          intro x
          simp only [Lib.byteCells, List.length_append, List.length_cons, List.length_nil, List.length_map, hexL_length, List.length_take]; omega
        have HL1 := Aside0.mk hlen; clear hlen
        go_wp2_with ((go_at_call 38; refine (bWriteByte w.heap.size _ _ _ _ (.inr HI1.out) (HL1.out _) HB1.out.size).mono ?_; rintro e w2 ⟨rfl, hi1, hb1, hok⟩; clear hok; have HI2 := Aside0.mk hi1; have HB2 := Aside0.mk (HB1.out.trans hb1); clear hi1 hb1 HI1 HB1))
        go_roundw
        case rel =>
          refine ⟨k + 1, by omega, by go_num, ⟨.inr ?_⟩, ⟨HB2.out⟩⟩
          have h2 := HI2.out
          rw [H1.out (by show _ < 16; omega), H2.out (by show _ < 16; omega), hb'.out] at h2
          have e1 := hexL_take l0 k hlt
          rw [e1]
          simpa [Lib.byteCells] using h2
        case measure => simp [intOf]; omega
      · have hkl : k = l0.length := by omega
        subst hkl
        rw [List.take_length] at HI
        go_wp2_with ((go_at_call 39; refine (bString w.heap.size _ _ _ HI.out HB.out.size).mono ?_; rintro e w1 ⟨rfl, hi1, hb1⟩; clear hi1; have HB1 := Aside0.mk (HB.out.trans hb1); clear hb1 HB HI))
        go_ret
        exact ⟨rfl, HB1.out⟩
  · rw [if_neg hh] at h; cases h
end Go.Proofs.YtohmnedenhngpaaDoor
