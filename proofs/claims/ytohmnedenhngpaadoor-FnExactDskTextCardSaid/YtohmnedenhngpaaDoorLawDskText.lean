/- The law of DskText: the walk. -/
import Derived.Test.YtohmnedenhngpaaDoorDskS
import Derived.Test.YtohmnedenhngpaaDoorPFnExactDskTextBx1
import Derived.Test.YtohmnedenhngpaaDoorLawPure
set_option linter.unusedVariables false
set_option linter.unusedSimpArgs false
namespace Go.Proofs.YtohmnedenhngpaaDoor
open Go.Shelf Go.RowKit Go.Proofs.YtohmnedenhngpaaDoorW.PrintWords Go.Proofs.YtohmnedenhngpaaDoor.PFnExactDskTextB
theorem sz_c (k who at_ v : Int) (A : Option Addr) (c : Nat) (l : List Int) (w : World) (hr : Kd.C (Kd.int .u8) w A l.length l) (hc : l.length ≤ c) (hl : l.length ≤ 9223372036854775807) :
    Calls Tryd.prog 5 #[.agg #[.int .i64 k, .int .i64 who, .int .i64 at_, .int .i64 v, .slice A l.length c], .int .i64 1048576] w fun e w' => e = .returned (.int .i64 (if 1048576 < l.length then -1 else 1048576 - (l.length : Int))) ∧ Below w.heap.size w w' :=
  laws_szEvEvent.calls k who at_ v A c l 1048576 _ w hr hc (Pure.sz_eq k who at_ v l hl)
theorem toEv_c (k who at_ v : Int) (A : Option Addr) (c : Nat) (l : List Int) (w : World) (hr : Kd.C (Kd.int .u8) w A l.length l) (hc : l.length ≤ c) (hl : l.length ≤ 140737488351232) :
    Calls Tryd.prog 7 #[.agg #[.int .i64 k, .int .i64 who, .int .i64 at_, .int .i64 v, .slice A l.length c]] w fun e w' => ∃ A' c', e = .returned (.agg #[.int .i64 k, .int .i64 who, .int .i64 at_, .int .i64 v, .slice A' l.length c']) ∧ l.length ≤ c' ∧ Kd.C (Kd.int .u8) w' A' l.length l ∧ Below w.heap.size w w' := by
  obtain ⟨n, hn⟩ := (Pure.toEv_ev k who at_ v l hl).rounds
  refine (laws_toEvEvent.calls n k who at_ v A c l k who at_ v l w hr hc hn).mono ?_
  rintro e w' ⟨v4, rfl, hR, hb⟩
  obtain ⟨A', c', rfl, h1, h2⟩ := Kd.R_reads hR
  exact ⟨A', c', rfl, h1, h2, hb⟩
theorem eqEv_c (k who at_ v : Int) (A A' : Option Addr) (c c' : Nat) (l : List Int) (w : World) (hr : Kd.C (Kd.int .u8) w A l.length l) (hc : l.length ≤ c) (hr' : Kd.C (Kd.int .u8) w A' l.length l) (hc' : l.length ≤ c') (hl : l.length ≤ 140737488351232) :
    Calls Tryd.prog 9 #[.agg #[.int .i64 k, .int .i64 who, .int .i64 at_, .int .i64 v, .slice A l.length c], .agg #[.int .i64 k, .int .i64 who, .int .i64 at_, .int .i64 v, .slice A' l.length c']] w fun e w' => e = .returned (.bool true) ∧ Below w.heap.size w w' := by
  obtain ⟨n, hn⟩ := (Pure.eqEv_ev k who at_ v l hl).rounds
  exact laws_eqEvEvent.calls n k who at_ v A c l k who at_ v A' c' l true w hr hc hr' hc' hn
set_option maxHeartbeats 4000000 in
set_option maxRecDepth 100000 in
theorem law_walk (k who at_ v : Int) (A : Option Addr) (c : Nat) (l : List Int) (w : World) (ta : Addr) (tc : Nat) (hr : Kd.C (Kd.int .u8) w A l.length l) (hc : l.length ≤ c) (hl : ∀ x ∈ l, 0 ≤ x ∧ x ≤ 255) (hlen : l.length ≤ 9223372036854775807) (ht : EvTab w ta tc) (hp : Lib.TabIs Tryd.prog w "internal/strconv.uint64pow10" .u64 Lib.pow10Tab) :
    Calls Tryd.prog 3 #[.agg #[.int .i64 k, .int .i64 who, .int .i64 at_, .int .i64 v, .slice A l.length c]] w fun e w' => e = .returned (.bool true) ∧ Below w.heap.size w w' := by
  have HR := As.mk hr; clear hr
  have HT := As.mk ht; clear ht
  have HP := As.mk hp; clear hp
  have HL := As.mk hl; clear hl
  have K0 : KT w (.cells #[.int .i64 k, .int .i64 who, .int .i64 at_, .int .i64 v, .slice A l.length c] 24 (0, 0)) (w.alloc (.cells #[.int .i64 k, .int .i64 who, .int .i64 at_, .int .i64 v, .slice A l.length c] 24 (0, 0))) := ⟨(Below.refl _ _).alloc (Nat.le_refl _) _, by simp, by show (w.heap.push _)[w.heap.size]? = _; simp⟩
  have HK0 := As.mk K0; clear K0
  by_cases hbig : 1048576 < l.length
  · go_enter Tryd.func3, Tryd.ntmps3
    go_wp2_with ((go_at_call 5; refine (sz_c k who at_ v A c l _ (Kd.C_below HR.out ((Below.refl _ _).alloc (Nat.le_refl _) _)) hc hlen).mono ?_; rintro e w1 ⟨rfl, hb⟩; have HK1 := As.mk (HK0.out.step hb); clear hb HK0; have c0 : w1.cell? ⟨w.heap.size, 0, none⟩ = some (.int .i64 k) := HK1.out.cell 0 _ rfl; have c1 : w1.cell? ⟨w.heap.size, 1, none⟩ = some (.int .i64 who) := HK1.out.cell 1 _ rfl; have c2 : w1.cell? ⟨w.heap.size, 2, none⟩ = some (.int .i64 at_) := HK1.out.cell 2 _ rfl; have c3 : w1.cell? ⟨w.heap.size, 3, none⟩ = some (.int .i64 v) := HK1.out.cell 3 _ rfl; have c4 : w1.cell? ⟨w.heap.size, 4, none⟩ = some (.slice A l.length c) := HK1.out.cell 4 _ rfl; rw [if_pos hbig]))
    go_ret
    exact ⟨rfl, HK1.out.below⟩
  · have hlen' : l.length ≤ 140737488351232 := by omega
    have hneg : decide ((1048576 : Int) - (l.length : Int) < 0) = false := decide_eq_false (by omega)
    go_enter Tryd.func3, Tryd.ntmps3
    go_wp2_with ((go_at_call 5; refine (sz_c k who at_ v A c l _ (Kd.C_below HR.out ((Below.refl _ _).alloc (Nat.le_refl _) _)) hc hlen).mono ?_; rintro e w1 ⟨rfl, hb⟩; have HK1 := As.mk (HK0.out.step hb); clear hb HK0; have c0 : w1.cell? ⟨w.heap.size, 0, none⟩ = some (.int .i64 k) := HK1.out.cell 0 _ rfl; have c1 : w1.cell? ⟨w.heap.size, 1, none⟩ = some (.int .i64 who) := HK1.out.cell 1 _ rfl; have c2 : w1.cell? ⟨w.heap.size, 2, none⟩ = some (.int .i64 at_) := HK1.out.cell 2 _ rfl; have c3 : w1.cell? ⟨w.heap.size, 3, none⟩ = some (.int .i64 v) := HK1.out.cell 3 _ rfl; have c4 : w1.cell? ⟨w.heap.size, 4, none⟩ = some (.slice A l.length c) := HK1.out.cell 4 _ rfl; rw [if_neg hbig]))
    go_wp2_with (first
      | (go_at_call 7; refine (toEv_c k who at_ v A c l _ (Kd.C_below HR.out HK1.out.below) hc hlen').mono ?_; rintro e w2 ⟨A2, q2, rfl, hc2, hC2, hb⟩; have HC2 := As.mk hC2; have HK2 := As.mk (HK1.out.step hb); clear hb HK1 hC2 c0 c1 c2 c3 c4)
      | (go_at_call 6; refine (spec_DskText.calls k who at_ v A2 q2 l _ HC2.out hc2 HL.out).mono ?_; rintro e w3 ⟨rfl, hb⟩; have HK3 := As.mk (HK2.out.step hb); clear hb HK2 HC2; have c0 : w3.cell? ⟨w.heap.size, 0, none⟩ = some (.int .i64 k) := HK3.out.cell 0 _ rfl; have c1 : w3.cell? ⟨w.heap.size, 1, none⟩ = some (.int .i64 who) := HK3.out.cell 1 _ rfl; have c2 : w3.cell? ⟨w.heap.size, 2, none⟩ = some (.int .i64 at_) := HK3.out.cell 2 _ rfl; have c3 : w3.cell? ⟨w.heap.size, 3, none⟩ = some (.int .i64 v) := HK3.out.cell 3 _ rfl; have c4 : w3.cell? ⟨w.heap.size, 4, none⟩ = some (.slice A l.length c) := HK3.out.cell 4 _ rfl))
    go_wp2_with (first
      | (go_at_call 7; refine (toEv_c k who at_ v A c l _ (Kd.C_below HR.out HK3.out.below) hc hlen').mono ?_; rintro e w4 ⟨A4, c4', rfl, hc4, hC4, hb⟩; have HC4 := As.mk hC4; have HK4 := As.mk (HK3.out.step hb); clear hb HK3 hC4 c0 c1 c2 c3 c4; have K2 : KT w4 (.cells #[.int .i64 k, .int .i64 who, .int .i64 at_, .int .i64 v, .slice A4 l.length c4'] 27 (0, 0)) (w4.alloc (.cells #[.int .i64 k, .int .i64 who, .int .i64 at_, .int .i64 v, .slice A4 l.length c4'] 27 (0, 0))) := ⟨(Below.refl _ _).alloc (Nat.le_refl _) _, by simp, by show (w4.heap.push _)[w4.heap.size]? = _; simp⟩; have HJ0 := As.mk K2; clear K2)
      | (go_at_call 8; have hb4 : Below w4.heap.size w4 (w4.alloc (.cells #[.int .i64 k, .int .i64 who, .int .i64 at_, .int .i64 v, .slice A4 l.length c4'] 27 (0, 0))) := (Below.refl _ _).alloc (Nat.le_refl _) _; have HB4 := As.mk hb4; clear hb4; refine (impl_DskText.calls k who at_ v A4 c4' l _ ta tc (Kd.C_below HC4.out HB4.out) hc4 HL.out (HT.out.below (HK4.out.step HB4.out).below) (tabIs_below HP.out (HK4.out.step HB4.out).below)).mono ?_; rintro e w5 ⟨rfl, hb⟩; have HK5 := As.mk ((HK4.out.step HB4.out).step hb); have HJ5 := As.mk (HJ0.out.step hb); have HC5 := As.mk (Kd.C_below (Kd.C_below HC4.out HB4.out) hb); clear hb HK4 HJ0 HC4 HB4; have c0 : w5.cell? ⟨w.heap.size, 0, none⟩ = some (.int .i64 k) := HK5.out.cell 0 _ rfl; have c1 : w5.cell? ⟨w.heap.size, 1, none⟩ = some (.int .i64 who) := HK5.out.cell 1 _ rfl; have c2 : w5.cell? ⟨w.heap.size, 2, none⟩ = some (.int .i64 at_) := HK5.out.cell 2 _ rfl; have c3 : w5.cell? ⟨w.heap.size, 3, none⟩ = some (.int .i64 v) := HK5.out.cell 3 _ rfl; have c4 : w5.cell? ⟨w.heap.size, 4, none⟩ = some (.slice A l.length c) := HK5.out.cell 4 _ rfl; have d0 : w5.cell? ⟨w4.heap.size, 0, none⟩ = some (.int .i64 k) := HJ5.out.cell 0 _ rfl; have d1 : w5.cell? ⟨w4.heap.size, 1, none⟩ = some (.int .i64 who) := HJ5.out.cell 1 _ rfl; have d2 : w5.cell? ⟨w4.heap.size, 2, none⟩ = some (.int .i64 at_) := HJ5.out.cell 2 _ rfl; have d3 : w5.cell? ⟨w4.heap.size, 3, none⟩ = some (.int .i64 v) := HJ5.out.cell 3 _ rfl; have d4 : w5.cell? ⟨w4.heap.size, 4, none⟩ = some (.slice A4 l.length c4') := HJ5.out.cell 4 _ rfl))
    have HK5d := As.mk HK5.out.drew
    have HJ5d := As.mk HJ5.out.drew
    have HC5d := As.mk (Kd.C_below HC5.out ((Below.refl w5.heap.size w5).drew))
    go_region_with ((first
      | (go_at_call 7; first | (refine (toEv_c k who at_ v A c l w5.drew (Kd.C_below HR.out HK5d.out.below) hc hlen').mono ?_; rintro e w6 ⟨A6, q6, rfl, hq6, hC6, hb⟩; have HC6 := As.mk hC6; have HK6 := As.mk (HK5d.out.step hb); have HJ6 := As.mk (HJ5d.out.step hb); have HD6 := As.mk (Kd.C_below HC5d.out hb); clear hb hC6; have f0 : w6.cell? ⟨w4.heap.size, 0, none⟩ = some (.int .i64 k) := HJ6.out.cell 0 _ rfl; have f1 : w6.cell? ⟨w4.heap.size, 1, none⟩ = some (.int .i64 who) := HJ6.out.cell 1 _ rfl; have f2 : w6.cell? ⟨w4.heap.size, 2, none⟩ = some (.int .i64 at_) := HJ6.out.cell 2 _ rfl; have f3 : w6.cell? ⟨w4.heap.size, 3, none⟩ = some (.int .i64 v) := HJ6.out.cell 3 _ rfl; have f4 : w6.cell? ⟨w4.heap.size, 4, none⟩ = some (.slice A4 l.length c4') := HJ6.out.cell 4 _ rfl) | (refine (toEv_c k who at_ v A c l w5 (Kd.C_below HR.out HK5.out.below) hc hlen').mono ?_; rintro e w6 ⟨A6, q6, rfl, hq6, hC6, hb⟩; have HC6 := As.mk hC6; have HK6 := As.mk (HK5.out.step hb); have HJ6 := As.mk (HJ5.out.step hb); have HD6 := As.mk (Kd.C_below HC5.out hb); clear hb hC6; have f0 : w6.cell? ⟨w4.heap.size, 0, none⟩ = some (.int .i64 k) := HJ6.out.cell 0 _ rfl; have f1 : w6.cell? ⟨w4.heap.size, 1, none⟩ = some (.int .i64 who) := HJ6.out.cell 1 _ rfl; have f2 : w6.cell? ⟨w4.heap.size, 2, none⟩ = some (.int .i64 at_) := HJ6.out.cell 2 _ rfl; have f3 : w6.cell? ⟨w4.heap.size, 3, none⟩ = some (.int .i64 v) := HJ6.out.cell 3 _ rfl; have f4 : w6.cell? ⟨w4.heap.size, 4, none⟩ = some (.slice A4 l.length c4') := HJ6.out.cell 4 _ rfl))
      | (go_at_call 9; refine (eqEv_c k who at_ v A4 A6 c4' q6 l _ HD6.out hc4 HC6.out hq6 hlen').mono ?_; rintro e w7 ⟨rfl, hb⟩; have HK7 := As.mk (HK6.out.step hb); clear hb)))
    all_goals go_wp2
    all_goals go_ret
    all_goals exact ⟨rfl, by first | exact HK7.out.below | exact HK7.out.drew.below⟩
end Go.Proofs.YtohmnedenhngpaaDoor
