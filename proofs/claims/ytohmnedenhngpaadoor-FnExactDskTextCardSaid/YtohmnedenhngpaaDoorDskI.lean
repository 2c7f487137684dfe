/- What the program's DskText does. -/
import Derived.Test.YtohmnedenhngpaaDoorEvTab
import Derived.Test.YtohmnedenhngpaaDoorHexI
import Derived.Test.YtohmnedenhngpaaDoorItoa
import Derived.Deep.RegionHeld3
set_option linter.unusedVariables false
set_option linter.unusedSimpArgs false
namespace Go.Proofs.YtohmnedenhngpaaDoor
open Go.Shelf Go.RowKit Go.Proofs.YtohmnedenhngpaaDoorW.PrintWords
set_option maxRecDepth 100000 in
theorem in_c (a b c : Int) (w : World) : Calls Tryd.prog 21 #[.int .i64 a, .int .i64 b, .int .i64 c] w fun e w' => e = .returned (.bool (decide (b ≤ a ∧ a ≤ c))) ∧ w' = w := by
  by_cases h1 : b ≤ a <;> by_cases h2 : a ≤ c
  all_goals
    go_enter Tryd.func21, Tryd.ntmps21
    go_wp2
    go_ret
    exact ⟨by simp [h1, h2], rfl⟩
def itoaB (i : Int) : ByteArray := ⟨(Lib.decDigits i.toNat).toArray⟩
theorem itoaS_c (i : Int) (h0 : 0 ≤ i) (h1 : i < 100) (w : World) : Calls Tryd.prog 22 #[.int .i64 i] w fun e w' => e = .returned (.string (itoaB i)) ∧ w' = w := by
  obtain ⟨n, rfl⟩ := Int.eq_ofNat_of_zero_le h0
  exact strconv_Itoa_small n (by omega) w
theorem itoa_c (i : Int) (h0 : 0 ≤ i) (h1 : i < 1000) (w : World) (ht : Lib.TabIs Tryd.prog w "internal/strconv.uint64pow10" .u64 Lib.pow10Tab) : Calls Tryd.prog 22 #[.int .i64 i] w fun e w' => e = .returned (.string (itoaB i)) ∧ Below w.heap.size w w' := by
  refine (strconv_Itoa i (by omega) (by omega) w ht).mono ?_
  rintro e w' ⟨rfl, k, os, rfl⟩
  refine ⟨?_, below_grow (below_drewN (Below.refl _ _) k) (by simp) os⟩
  unfold Lib.itoa itoaB
  rw [if_neg (by omega)]
/-- What a region with a call of Itoa keeps. -/
structure KS (w w' : World) : Prop where
  below : Below w.heap.size w w'
  tab : Lib.TabIs Tryd.prog w' "internal/strconv.uint64pow10" .u64 Lib.pow10Tab
  lt : w.heap.size < w'.heap.size
theorem KS.drew {w w' : World} (h : KS w w') : KS w w'.drew := ⟨h.below.drew, tabIs_below h.tab ((Below.refl _ _).drew), h.lt⟩
theorem itoa_r (w0 : World) (i a b : Int) (h0 : 0 ≤ i) (h1 : i < 1000) (w : World) (ha : w.cell? ⟨w0.heap.size, 2, none⟩ = some (.int .i64 a)) (hb : w.cell? ⟨w0.heap.size, 3, none⟩ = some (.int .i64 b)) (hk : KS w0 w) :
    Calls Tryd.prog 22 #[.int .i64 i] w fun e w' => e = .returned (.string (itoaB i)) ∧ w'.cell? ⟨w0.heap.size, 2, none⟩ = some (.int .i64 a) ∧ w'.cell? ⟨w0.heap.size, 3, none⟩ = some (.int .i64 b) ∧ KS w0 w' := by
  refine (itoa_c i h0 h1 w hk.tab).mono ?_
  rintro e w' ⟨rfl, hbl⟩
  exact ⟨rfl, (hbl.cell (p := ⟨w0.heap.size, 2, none⟩) hk.lt).trans ha, (hbl.cell (p := ⟨w0.heap.size, 3, none⟩) hk.lt).trans hb, hk.below.trans (hbl.mono (Nat.le_of_lt hk.lt)), tabIs_below hk.tab hbl, Nat.lt_of_lt_of_le hk.lt hbl.size⟩
def sp : ByteArray := ⟨#[32]⟩
def hexB (l : List Int) : ByteArray := ⟨(hexL l).toArray⟩
def dskText (k who at_ v : Int) (l : List Int) : ByteArray :=
  if (1 ≤ k ∧ k ≤ 11) ∧ (0 ≤ who ∧ who ≤ 1) then
    (if k = 1 ∨ k = 11 then (if 24 < l.length then ⟨#[]⟩ else evWords.getD k.toNat ⟨#[]⟩ ++ sp ++ itoaB who ++ (sp ++ hexB l))
     else if k = 4 then (if v = 1 then evWords.getD k.toNat ⟨#[]⟩ ++ sp ++ itoaB who ++ ⟨#[32, 49]⟩ else evWords.getD k.toNat ⟨#[]⟩ ++ sp ++ itoaB who ++ ⟨#[32, 48]⟩)
     else if k = 9 then (if (0 ≤ at_ ∧ at_ ≤ 99) ∧ (1 ≤ v ∧ v ≤ 255) then evWords.getD k.toNat ⟨#[]⟩ ++ sp ++ itoaB who ++ (sp ++ itoaB at_ ++ sp ++ itoaB v) else ⟨#[]⟩)
     else evWords.getD k.toNat ⟨#[]⟩ ++ sp ++ itoaB who)
  else ⟨#[]⟩
theorem evWord_size (i : Nat) : (evWords.getD i ⟨#[]⟩).size ≤ 6 := by
  by_cases h : i < 12
  · have : ∀ j : Fin 12, (evWords.getD j.val ⟨#[]⟩).size ≤ 6 := by decide
    exact this ⟨i, h⟩
  · rw [List.getD_eq_getElem?_getD, List.getElem?_eq_none (by simpa [evWords] using h)]; decide
theorem decD_len (u : Nat) (h : u < 1000) : (Lib.decDigits u).length ≤ 3 := by
  rw [Lib.decDigits]; split
  · simp
  · rw [Lib.decDigits]; split
    · simp
    · rw [Lib.decDigits, dif_pos (by omega)]; simp
theorem itoaB_size (i : Int) (h1 : i < 1000) : (itoaB i).size ≤ 3 := by
  have := decD_len i.toNat (by omega)
  simpa [itoaB, ByteArray.size] using this
theorem hexB_size (l : List Int) (h1 : l.length ≤ 24) : (hexB l).size ≤ 48 := by
  have := hexL_length l
  simp only [hexB, ByteArray.size, List.size_toArray]; omega
theorem hexText_c (A : Option Addr) (c : Nat) (l : List Int) (w : World) (hr : Kd.C (Kd.int .u8) w A l.length l) (hc : l.length ≤ c) (hl : ∀ x ∈ l, 0 ≤ x ∧ x ≤ 255) (h24 : l.length ≤ 24) : Calls Tryd.prog 23 #[.slice A l.length c] w fun e w' => e = .returned (.string (hexB l)) ∧ Below w.heap.size w w' :=
  impl_HexText.calls A c l _ w hr hc (by unfold impl_HexText.f; rw [if_pos ⟨hl, by omega⟩]; rfl)
set_option maxHeartbeats 4000000 in
set_option maxRecDepth 100000 in
theorem impl_DskText.calls (k who at_ v : Int) (A : Option Addr) (c : Nat) (l : List Int) (w : World) (ta : Addr) (tc : Nat) (hr : Kd.C (Kd.int .u8) w A l.length l) (hc : l.length ≤ c) (hl : ∀ x ∈ l, 0 ≤ x ∧ x ≤ 255) (ht : EvTab w ta tc) (hp : Lib.TabIs Tryd.prog w "internal/strconv.uint64pow10" .u64 Lib.pow10Tab) :
    Calls Tryd.prog 8 #[.agg #[.int .i64 k, .int .i64 who, .int .i64 at_, .int .i64 v, .slice A l.length c]] w fun e w' => e = .returned (.string (dskText k who at_ v l)) ∧ Below w.heap.size w w' := by
  have HR := As.mk hr; clear hr
  have HT := As.mk ht; clear ht
  have HP := As.mk hp; clear hp
  have HL := As.mk hl; clear hl
  by_cases h1 : (1 ≤ k ∧ k ≤ 11)
  · by_cases h2 : (0 ≤ who ∧ who ≤ 1)
    · have d1 := decide_eq_true h1
      have d2 := decide_eq_true h2
      go_enter Tryd.func8, Tryd.ntmps8
      go_wp2_with ((go_at_call 21; refine (in_c _ _ _ _).mono ?_; rintro e w1 ⟨rfl, rfl⟩))
      have g0 := HT.out.g
      have g1 := HT.out.lt
      have g2 := HT.out.var
      have g3 := HT.out.word k.toNat (by omega)
      obtain ⟨tb, to_, tsp⟩ := ta
      have hsp : tsp = none := by
        have := World.cell?_spot (HT.out.word 0 (by omega))
        simpa [Addr.add] using this
      subst hsp
      rw [add_at] at g3
      simp only at g1
      obtain ⟨wd, ewd⟩ : ∃ x, evWords.getD k.toNat ByteArray.empty = x := ⟨_, rfl⟩
      have hws : wd.size ≤ 6 := by rw [← ewd]; exact evWord_size _
      rw [ewd] at g3
      have k0 : 0 ≤ k := by omega
      have k1 : k < 12 := by omega
      have s0 := itoaB_size who (by omega)
      have s1 : wd.size + 1 ≤ 9223372036854775807 := by omega
      have s2 : wd.size + 1 + (itoaB who).size ≤ 9223372036854775807 := by omega
      have s1b := decide_eq_true s1
      have s1c := eq_false (Nat.not_lt.2 s1)
      have s2b := decide_eq_true s2
      have s2c := eq_false (Nat.not_lt.2 s2)
      go_quiet ((go_at_call 22; exact Calls.quiet_of_same (itoaS_c _ (by omega) (by omega) _)))
      generalize epre : wd ++ (⟨#[32]⟩ : ByteArray) ++ itoaB who = pre
      have hpre : pre.size ≤ 10 := by rw [← epre, ByteArray.size_append, ByteArray.size_append]; show _ + 1 + _ ≤ _; omega
      have EP := As.mk (show evWords.getD k.toNat ⟨#[]⟩ ++ sp ++ itoaB who = pre by rw [← epre, ← ewd]; rfl)
      clear epre ewd s0 s1 s2 s1b s1c s2b s2c g3 hws
      have KD := As.mk (show dskText k who at_ v l = (if k = 1 ∨ k = 11 then (if 24 < l.length then ⟨#[]⟩ else pre ++ (sp ++ hexB l)) else if k = 4 then (if v = 1 then pre ++ ⟨#[32, 49]⟩ else pre ++ ⟨#[32, 48]⟩) else if k = 9 then (if (0 ≤ at_ ∧ at_ ≤ 99) ∧ (1 ≤ v ∧ v ≤ 255) then pre ++ (sp ++ itoaB at_ ++ sp ++ itoaB v) else ⟨#[]⟩) else pre) by unfold dskText; rw [if_pos ⟨h1, h2⟩, EP.out])
      clear h1 h2 d1 d2
      by_cases q1 : k = 1
      · subst q1
        by_cases q24 : 24 < l.length
        · have e24 : decide ((24 : Int) < (l.length : Int)) = true := decide_eq_true (by omega)
          go_wp2
          go_ret
          refine ⟨?_, below_drewN ((Below.refl _ _).alloc (Nat.le_refl _) _) _⟩
          exact congrArg (fun x => Ending.returned (.string x)) (show _ = dskText 1 who at_ v l by rw [KD.out]; simp [q24])
        · have e24 : decide ((24 : Int) < (l.length : Int)) = false := decide_eq_false (by omega)
          have z0 := hexB_size l (by omega)
          have z1 : 1 + (hexB l).size ≤ 9223372036854775807 := by omega
          have z1b := decide_eq_true z1
          have z1c := eq_false (Nat.not_lt.2 z1)
          have z2 : pre.size + (1 + (hexB l).size) ≤ 9223372036854775807 := by omega
          have z2b := decide_eq_true z2
          have z2c := eq_false (Nat.not_lt.2 z2)
          go_wp2_with ((go_at_call 23; refine (hexText_c A c l _ (Kd.C_below HR.out (below_drewN ((Below.refl _ _).alloc (Nat.le_refl _) _) _)) hc HL.out (by omega)).mono ?_; rintro e w1 ⟨rfl, hb⟩; have HB := As.mk ((below_drewN ((Below.refl w.heap.size w).alloc (Nat.le_refl _) _) _).trans (hb.mono (by simp))); clear hb))
          go_ret
          refine ⟨?_, HB.out⟩
          exact congrArg (fun x => Ending.returned (.string x)) (show _ = dskText 1 who at_ v l by rw [KD.out]; simp [q24]; rfl)
      by_cases q2 : k = 11
      · subst q2
        by_cases q24 : 24 < l.length
        · have e24 : decide ((24 : Int) < (l.length : Int)) = true := decide_eq_true (by omega)
          go_wp2
          go_ret
          refine ⟨?_, below_drewN ((Below.refl _ _).alloc (Nat.le_refl _) _) _⟩
          exact congrArg (fun x => Ending.returned (.string x)) (show _ = dskText 11 who at_ v l by rw [KD.out]; simp [q24])
        · have e24 : decide ((24 : Int) < (l.length : Int)) = false := decide_eq_false (by omega)
          have z0 := hexB_size l (by omega)
          have z1 : 1 + (hexB l).size ≤ 9223372036854775807 := by omega
          have z1b := decide_eq_true z1
          have z1c := eq_false (Nat.not_lt.2 z1)
          have z2 : pre.size + (1 + (hexB l).size) ≤ 9223372036854775807 := by omega
          have z2b := decide_eq_true z2
          have z2c := eq_false (Nat.not_lt.2 z2)
          go_wp2_with ((go_at_call 23; refine (hexText_c A c l _ (Kd.C_below HR.out (below_drewN ((Below.refl _ _).alloc (Nat.le_refl _) _) _)) hc HL.out (by omega)).mono ?_; rintro e w1 ⟨rfl, hb⟩; have HB := As.mk ((below_drewN ((Below.refl w.heap.size w).alloc (Nat.le_refl _) _) _).trans (hb.mono (by simp))); clear hb))
          go_ret
          refine ⟨?_, HB.out⟩
          exact congrArg (fun x => Ending.returned (.string x)) (show _ = dskText 11 who at_ v l by rw [KD.out]; simp [q24]; rfl)
      by_cases q4 : k = 4
      · subst q4
        have z2 : pre.size + 2 ≤ 9223372036854775807 := by omega
        have z2b := decide_eq_true z2
        have z2c := eq_false (Nat.not_lt.2 z2)
        by_cases qv : v = 1
        · subst qv
          go_wp2
          go_ret
          refine ⟨?_, below_drewN ((Below.refl _ _).alloc (Nat.le_refl _) _) _⟩
          exact congrArg (fun x => Ending.returned (.string x)) (show _ = dskText 4 who at_ 1 l by rw [KD.out]; simp)
        · have bv : (v == 1) = false := by simpa using qv
          go_wp2
          go_ret
          refine ⟨?_, below_drewN ((Below.refl _ _).alloc (Nat.le_refl _) _) _⟩
          exact congrArg (fun x => Ending.returned (.string x)) (show _ = dskText 4 who at_ v l by rw [KD.out]; simp [qv])
      by_cases q9 : k = 9
      · subst q9
        by_cases a1 : 0 ≤ at_ ∧ at_ ≤ 99
        · by_cases a2 : 1 ≤ v ∧ v ≤ 255
          · have e1 := decide_eq_true a1
            have e2 := decide_eq_true a2
            go_wp2_with ((go_at_call 21; refine (in_c _ _ _ _).mono ?_; rintro e w1 ⟨rfl, rfl⟩))
            have z1 := itoaB_size at_ (by omega)
            have z2 := itoaB_size v (by omega)
            have y1 : 1 + (itoaB at_).size ≤ 9223372036854775807 := by omega
            have y1b := decide_eq_true y1
            have y1c := eq_false (Nat.not_lt.2 y1)
            have y2 : 1 + (itoaB at_).size + 1 ≤ 9223372036854775807 := by omega
            have y2b := decide_eq_true y2
            have y2c := eq_false (Nat.not_lt.2 y2)
            have y3 : 1 + (itoaB at_).size + 1 + (itoaB v).size ≤ 9223372036854775807 := by omega
            have y3b := decide_eq_true y3
            have y3c := eq_false (Nat.not_lt.2 y3)
            have y4 : pre.size + (1 + (itoaB at_).size + 1 + (itoaB v).size) ≤ 9223372036854775807 := by omega
            have y4b := decide_eq_true y4
            have y4c := eq_false (Nat.not_lt.2 y4)
            by_cases a3 : v < 100
            · go_quiet ((go_at_call 22; first | exact (itoaS_c at_ (by omega) (by omega) _).mono fun _ _ h => ⟨h.1, _, h.2⟩ | exact (itoaS_c v (by omega) (by omega) _).mono fun _ _ h => ⟨h.1, _, h.2⟩))
              go_wp2
              go_ret
              refine ⟨?_, below_drewN (below_drewN ((Below.refl _ _).alloc (Nat.le_refl _) _) _) _⟩
              exact congrArg (fun x => Ending.returned (.string x)) (show _ = dskText 9 who at_ v l by rw [KD.out, if_neg (by omega), if_neg (by omega), if_pos trivial, if_pos ⟨a1, a2⟩]; rfl)
            · have K0 : KS w ((w.alloc (.cells #[.int .i64 9, .int .i64 who, .int .i64 at_, .int .i64 v, .slice A l.length c] 27)).drewN nq) := ⟨below_drewN ((Below.refl _ _).alloc (Nat.le_refl _) _) _, tabIs_below HP.out (below_drewN ((Below.refl _ _).alloc (Nat.le_refl _) _) _), by simp⟩
              have K1 : ∀ W : World, (W.heap = (w.alloc (.cells #[.int .i64 9, .int .i64 who, .int .i64 at_, .int .i64 v, .slice A l.length c] 27)).heap ∧ W.os = w.os ∧ W.tape = w.tape ∧ W.output = w.output) → KS w W := fun W h => ⟨⟨h.2.1, h.2.2.1, h.2.2.2, by rw [h.1]; simp, fun k hk => by rw [h.1]; exact Below.heap_alloc _ _ _ hk⟩, (by have := K0.tab; unfold Lib.TabIs World.var? at this ⊢; rw [h.1]; exact this), by rw [h.1]; simp⟩
              have K2 := K0.drew
              have K3 : KS w ((w.alloc (.cells #[.int .i64 9, .int .i64 who, .int .i64 at_, .int .i64 v, .slice A l.length c] 27)).drewN (nq + 1)) := K1 _ ⟨rfl, rfl, rfl, rfl⟩
              go_region_held3 (fun w' => w'.cell? ⟨w.heap.size, 2, none⟩ = some (.int .i64 at_) ∧ w'.cell? ⟨w.heap.size, 3, none⟩ = some (.int .i64 v) ∧ KS w w') (go_keep)
                (first
                  | (go_at_call_of 22 (Value.int .i64 at_); refine (itoa_r w at_ at_ v (by omega) (by omega) _ ?_ ?_ ?_).mono ?_; (simp [*]); (simp [*]); (simp [*]); rintro e w' ⟨rfl, hq1, hq2, hq3⟩)
                  | (go_at_call_of 22 (Value.int .i64 v); refine (itoa_r w v at_ v (by omega) (by omega) _ ?_ ?_ ?_).mono ?_; (simp [*]); (simp [*]); (simp [*]); rintro e w' ⟨rfl, hq1, hq2, hq3⟩))
              all_goals go_wp2
              all_goals go_ret
              all_goals
                refine ⟨?_, ?_⟩
                · exact congrArg (fun x => Ending.returned (.string x)) (show _ = dskText 9 who at_ v l by rw [KD.out, if_neg (by omega), if_neg (by omega), if_pos trivial, if_pos ⟨a1, a2⟩]; rfl)
                · first | exact hq3.below | exact hq3.below.drew | exact below_drewN hq3.below _
          · have e1 := decide_eq_true a1
            have e2 := decide_eq_false a2
            go_wp2_with ((go_at_call 21; refine (in_c _ _ _ _).mono ?_; rintro e w1 ⟨rfl, rfl⟩))
            go_ret
            refine ⟨?_, below_drewN ((Below.refl _ _).alloc (Nat.le_refl _) _) _⟩
            exact congrArg (fun x => Ending.returned (.string x)) (show _ = dskText 9 who at_ v l by rw [KD.out, if_neg (by omega), if_neg (by omega), if_pos trivial, if_neg (fun h => a2 h.2)])
        · have e1 := decide_eq_false a1
          go_wp2_with ((go_at_call 21; refine (in_c _ _ _ _).mono ?_; rintro e w1 ⟨rfl, rfl⟩))
          go_ret
          refine ⟨?_, below_drewN ((Below.refl _ _).alloc (Nat.le_refl _) _) _⟩
          exact congrArg (fun x => Ending.returned (.string x)) (show _ = dskText 9 who at_ v l by rw [KD.out, if_neg (by omega), if_neg (by omega), if_pos trivial, if_neg (fun h => a1 h.1)])
      have b1 : (k == 1) = false := by simpa using q1
      have b2 : (k == 11) = false := by simpa using q2
      have b3 : (k == 4) = false := by simpa using q4
      have b4 : (k == 9) = false := by simpa using q9
      go_wp2
      go_ret
      refine ⟨?_, below_drewN ((Below.refl _ _).alloc (Nat.le_refl _) _) _⟩
      rw [KD.out, if_neg (by omega), if_neg q4, if_neg q9]; rfl
    · have d1 := decide_eq_true h1
      have d2 := decide_eq_false h2
      go_enter Tryd.func8, Tryd.ntmps8
      go_wp2_with ((go_at_call 21; refine (in_c _ _ _ _).mono ?_; rintro e w1 ⟨rfl, rfl⟩))
      go_ret
      refine ⟨?_, (Below.refl _ _).alloc (Nat.le_refl _) _⟩
      unfold dskText; rw [if_neg (fun h => h2 h.2)]; rfl
  · have d1 := decide_eq_false h1
    go_enter Tryd.func8, Tryd.ntmps8
    go_wp2_with ((go_at_call 21; refine (in_c _ _ _ _).mono ?_; rintro e w1 ⟨rfl, rfl⟩))
    go_ret
    refine ⟨?_, (Below.refl _ _).alloc (Nat.le_refl _) _⟩
    unfold dskText; rw [if_neg (fun h => h1 h.1)]; rfl
end Go.Proofs.YtohmnedenhngpaaDoor
