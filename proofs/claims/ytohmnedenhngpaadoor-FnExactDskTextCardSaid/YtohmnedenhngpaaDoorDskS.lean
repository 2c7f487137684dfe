/- What the reference's DskText does: the same text. -/
import Derived.Test.YtohmnedenhngpaaDoorPlain
set_option linter.unusedVariables false
set_option linter.unusedSimpArgs false
namespace Go.Proofs.YtohmnedenhngpaaDoor
open Go.Shelf Go.RowKit Go.Proofs.YtohmnedenhngpaaDoorW.PrintWords
/-- What a region with calls keeps: the box, the words once they are there. -/
structure KT (w : World) (o : Obj) (w' : World) : Prop where
  below : Below w.heap.size w w'
  lt : w.heap.size < w'.heap.size
  box : w'.heap[w.heap.size]? = some o
theorem KT.drew {w w' : World} {o : Obj} (h : KT w o w') : KT w o w'.drew := ⟨h.below.drew, h.lt, h.box⟩
theorem KT.drewN {w w' : World} {o : Obj} (h : KT w o w') (n : Nat) : KT w o (w'.drewN n) := ⟨below_drewN h.below n, by simpa using h.lt, by
  induction n with
  | zero => exact h.box
  | succ n ih => exact ih⟩
theorem KT.step {w w1 w2 : World} {o : Obj} (h : KT w o w1) (hb : Below w1.heap.size w1 w2) : KT w o w2 := ⟨h.below.trans (hb.mono (Nat.le_of_lt h.lt)), Nat.lt_of_lt_of_le h.lt hb.size, (hb.block _ h.lt).trans h.box⟩
theorem KT.cell {w w1 : World} {cs : Array Value} {t : TypeId} (h : KT w (.cells cs t (0, 0)) w1) (i : Nat) (v : Value) (hi : cs[i]? = some v) : w1.cell? ⟨w.heap.size, i, none⟩ = some v := by
  simp only [World.cell?, h.box]
  simpa using hi
theorem plain_r (w0 : World) (o : Obj) (o1 o2 : Nat) (u1 u2 : Value) (i : Int) (h0 : 0 ≤ i) (h1 : i < 1000) (w : World) (ha : w.cell? ⟨w0.heap.size, o1, none⟩ = some u1) (hb : w.cell? ⟨w0.heap.size, o2, none⟩ = some u2) (hk : KT w0 o w) :
    Calls Tryd.prog 17 #[.int .i64 i] w fun e w' => e = .returned (.string (itoaB i)) ∧ w'.cell? ⟨w0.heap.size, o1, none⟩ = some u1 ∧ w'.cell? ⟨w0.heap.size, o2, none⟩ = some u2 ∧ KT w0 o w' ∧ ∀ b o, b < w.heap.size → w'.cell? ⟨b, o, none⟩ = w.cell? ⟨b, o, none⟩ := by
  refine (l10Plain_c i h0 h1 w).mono ?_
  rintro e w' ⟨rfl, hbl⟩
  exact ⟨rfl, (hbl.cell (p := ⟨w0.heap.size, o1, none⟩) hk.lt).trans ha, (hbl.cell (p := ⟨w0.heap.size, o2, none⟩) hk.lt).trans hb, hk.step hbl, fun b o h => hbl.cell (p := ⟨b, o, none⟩) h⟩
theorem names_r (w0 : World) (o : Obj) (k who : Int) (wd : ByteArray) (ewd : evWords.getD k.toNat ByteArray.empty = wd) (h0 : 0 ≤ k) (h1 : k < 12) (w : World) (ha : w.cell? ⟨w0.heap.size, 0, none⟩ = some (.int .i64 k)) (hb : w.cell? ⟨w0.heap.size, 1, none⟩ = some (.int .i64 who)) (hk : KT w0 o w) :
    Calls Tryd.prog 16 #[] w fun e w' => ∃ nb, e = .returned (.slice (some ⟨nb, 0, none⟩) 12 12) ∧ w'.cell? ⟨w0.heap.size, 0, none⟩ = some (.int .i64 k) ∧ w'.cell? ⟨w0.heap.size, 1, none⟩ = some (.int .i64 who) ∧ KT w0 o w' ∧ w'.cell? ⟨nb, k.toNat, none⟩ = some (.string wd) ∧ nb < w'.heap.size := by
  refine (l10Names_c w).mono ?_
  rintro e w' ⟨rfl, rfl⟩
  have hbl : Below w.heap.size w (w.alloc evObj) := (Below.refl _ _).alloc (Nat.le_refl _) _
  refine ⟨_, rfl, (hbl.cell (p := ⟨w0.heap.size, 0, none⟩) hk.lt).trans ha, (hbl.cell (p := ⟨w0.heap.size, 1, none⟩) hk.lt).trans hb, hk.step hbl, ?_, by simp⟩
  obtain ⟨m, rfl⟩ := Int.eq_ofNat_of_zero_le h0
  have hm : m < 12 := by omega
  have e1 : (w.alloc evObj).heap[w.heap.size]? = some evObj := by show (w.heap.push evObj)[w.heap.size]? = _; simp
  have e2 : (w.alloc evObj).cell? ⟨w.heap.size, 0 + m, none⟩ = ((evWords.map Value.string).toArray)[m]? := by
    rw [Nat.zero_add]
    simp only [World.cell?, e1]
    rfl
  rw [Nat.zero_add] at e2
  have hl : m < evWords.length := hm
  rw [Int.toNat_natCast, e2, ← ewd]
  simp only [Int.toNat_natCast, List.getElem?_toArray, List.getElem?_map, List.getD_eq_getElem?_getD, List.getElem?_eq_getElem hl, Option.map_some, Option.getD_some]
set_option maxHeartbeats 4000000 in
set_option maxRecDepth 100000 in
theorem spec_DskText.calls (k who at_ v : Int) (A : Option Addr) (c : Nat) (l : List Int) (w : World) (hr : Kd.C (Kd.int .u8) w A l.length l) (hc : l.length ≤ c) (hl : ∀ x ∈ l, 0 ≤ x ∧ x ≤ 255) :
    Calls Tryd.prog 6 #[.agg #[.int .i64 k, .int .i64 who, .int .i64 at_, .int .i64 v, .slice A l.length c]] w fun e w' => e = .returned (.string (dskText k who at_ v l)) ∧ Below w.heap.size w w' := by
  have HR := As.mk hr; clear hr
  have HL := As.mk hl; clear hl
  by_cases h1 : (1 ≤ k ∧ k ≤ 11)
  · by_cases h2 : (0 ≤ who ∧ who ≤ 1)
    · have d1 := decide_eq_true h1
      have d2 := decide_eq_true h2
      go_enter Tryd.func6, Tryd.ntmps6
      go_wp2_with ((go_at_call 15; refine (l1In_c _ _ _ _).mono ?_; rintro e w1 ⟨rfl, rfl⟩))
      obtain ⟨ob, eob⟩ : ∃ o : Obj, o = (.cells #[.int .i64 k, .int .i64 who, .int .i64 at_, .int .i64 v, .slice A l.length c] 27 (0, 0)) := ⟨_, rfl⟩
      have K0 : KT w ob (w.alloc ob) := ⟨(Below.refl _ _).alloc (Nat.le_refl _) _, by simp, by show (w.heap.push ob)[w.heap.size]? = _; simp⟩
      have K1 := K0.drew
      have K2 := K0.drewN 1
      have EO := As.mk eob
      rw [eob] at K0 K1 K2
      clear eob
      obtain ⟨wd, ewd⟩ : ∃ x, evWords.getD k.toNat ByteArray.empty = x := ⟨_, rfl⟩
      have hws : wd.size ≤ 6 := by rw [← ewd]; exact evWord_size _
      have k0 : 0 ≤ k := by omega
      have k1 : k < 12 := by omega
      have s0 := itoaB_size who (by omega)
      have s1 : wd.size + 1 ≤ 9223372036854775807 := by omega
      have s2 : wd.size + 1 + (itoaB who).size ≤ 9223372036854775807 := by omega
      have s1b := decide_eq_true s1
      have s1c := eq_false (Nat.not_lt.2 s1)
      have s2b := decide_eq_true s2
      have s2c := eq_false (Nat.not_lt.2 s2)
      go_cut [3] (fun v3 wc => v3 = .string (wd ++ (⟨#[32]⟩ : ByteArray) ++ itoaB who) ∧ KT w (.cells #[.int .i64 k, .int .i64 who, .int .i64 at_, .int .i64 v, .slice A l.length c] 27) wc)
      case first =>
        go_region_with ((first
          | (go_at_call 16; refine (names_r w (.cells #[.int .i64 k, .int .i64 who, .int .i64 at_, .int .i64 v, .slice A l.length c] 27) k who wd ewd (by omega) (by omega) _ ?_ ?_ ?_).mono ?_; (simp [*]); (simp [*]); (simp [*]); rintro e w' ⟨nb, rfl, hq1, hq2, hq3, hnb, hnl⟩)
          | (go_at_call 17; refine (plain_r w (.cells #[.int .i64 k, .int .i64 who, .int .i64 at_, .int .i64 v, .slice A l.length c] 27) 0 1 (.int .i64 k) (.int .i64 who) who (by omega) (by omega) _ ?_ ?_ ?_).mono ?_; (simp [*]); (simp [*]); (simp [*]); rintro e w' ⟨rfl, hq1, hq2, hq3, hq4⟩)))
        all_goals (go_wp2_with (fail); go_meet; (case rel => exact ⟨rfl, by first | exact hq3 | exact hq3.drew | exact hq3.drewN _ | exact hq3.drew.drew | exact hq3.drew.drew.drew⟩))
      case rest =>
        obtain ⟨rfl, hq3⟩ := hcut
        have c0 : wc.cell? ⟨w.heap.size, 0, none⟩ = some (.int .i64 k) := hq3.cell 0 _ rfl
        have c1 : wc.cell? ⟨w.heap.size, 1, none⟩ = some (.int .i64 who) := hq3.cell 1 _ rfl
        have c2 : wc.cell? ⟨w.heap.size, 2, none⟩ = some (.int .i64 at_) := hq3.cell 2 _ rfl
        have c3 : wc.cell? ⟨w.heap.size, 3, none⟩ = some (.int .i64 v) := hq3.cell 3 _ rfl
        have c4 : wc.cell? ⟨w.heap.size, 4, none⟩ = some (.slice A l.length c) := hq3.cell 4 _ rfl
        generalize epre : wd ++ (⟨#[32]⟩ : ByteArray) ++ itoaB who = pre
        have hpre : pre.size ≤ 10 := by rw [← epre, ByteArray.size_append, ByteArray.size_append]; show _ + 1 + _ ≤ _; omega
        have EP := As.mk (show evWords.getD k.toNat ⟨#[]⟩ ++ sp ++ itoaB who = pre by rw [← epre, ← ewd]; rfl)
        clear epre ewd s0 s1 s2 s1b s1c s2b s2c hws K0 K1 K2
        have KD := As.mk (show dskText k who at_ v l = (if k = 1 ∨ k = 11 then (if 24 < l.length then ⟨#[]⟩ else pre ++ (sp ++ hexB l)) else if k = 4 then (if v = 1 then pre ++ ⟨#[32, 49]⟩ else pre ++ ⟨#[32, 48]⟩) else if k = 9 then (if (0 ≤ at_ ∧ at_ ≤ 99) ∧ (1 ≤ v ∧ v ≤ 255) then pre ++ (sp ++ itoaB at_ ++ sp ++ itoaB v) else ⟨#[]⟩) else pre) by unfold dskText; rw [if_pos ⟨h1, h2⟩, EP.out])
        clear h1 h2 d1 d2
        by_cases q1 : k = 1
        · subst q1
          by_cases q24 : 24 < l.length
          · have e24 : decide ((24 : Int) < (l.length : Int)) = true := decide_eq_true (by omega)
            go_wp2
            go_ret
            refine ⟨?_, hq3.below⟩
            exact congrArg (fun x => Ending.returned (.string x)) (show _ = dskText 1 who at_ v l by rw [KD.out]; simp [q24])
          · have e24 : decide ((24 : Int) < (l.length : Int)) = false := decide_eq_false (by omega)
            have z0 := hexB_size l (by omega)
            have z1 : 1 + (hexB l).size ≤ 9223372036854775807 := by omega
            have z1b := decide_eq_true z1
            have z1c := eq_false (Nat.not_lt.2 z1)
            have z2 : pre.size + (1 + (hexB l).size) ≤ 9223372036854775807 := by omega
            have z2b := decide_eq_true z2
            have z2c := eq_false (Nat.not_lt.2 z2)
            go_wp2_with ((go_at_call 18; refine (hexTextS_c A c l _ (Kd.C_below HR.out (hq3.below)) hc HL.out (by omega)).mono ?_; rintro e w1 ⟨rfl, hb⟩; have HB := As.mk (hq3.step hb); clear hb))
            go_ret
            refine ⟨?_, HB.out.below⟩
            exact congrArg (fun x => Ending.returned (.string x)) (show _ = dskText 1 who at_ v l by rw [KD.out]; simp [q24]; rw [bapp]; rfl)
        by_cases q2 : k = 11
        · subst q2
          by_cases q24 : 24 < l.length
          · have e24 : decide ((24 : Int) < (l.length : Int)) = true := decide_eq_true (by omega)
            go_wp2
            go_ret
            refine ⟨?_, hq3.below⟩
            exact congrArg (fun x => Ending.returned (.string x)) (show _ = dskText 11 who at_ v l by rw [KD.out]; simp [q24])
          · have e24 : decide ((24 : Int) < (l.length : Int)) = false := decide_eq_false (by omega)
            have z0 := hexB_size l (by omega)
            have z1 : 1 + (hexB l).size ≤ 9223372036854775807 := by omega
            have z1b := decide_eq_true z1
            have z1c := eq_false (Nat.not_lt.2 z1)
            have z2 : pre.size + (1 + (hexB l).size) ≤ 9223372036854775807 := by omega
            have z2b := decide_eq_true z2
            have z2c := eq_false (Nat.not_lt.2 z2)
            go_wp2_with ((go_at_call 18; refine (hexTextS_c A c l _ (Kd.C_below HR.out (hq3.below)) hc HL.out (by omega)).mono ?_; rintro e w1 ⟨rfl, hb⟩; have HB := As.mk (hq3.step hb); clear hb))
            go_ret
            refine ⟨?_, HB.out.below⟩
            exact congrArg (fun x => Ending.returned (.string x)) (show _ = dskText 11 who at_ v l by rw [KD.out]; simp [q24]; rw [bapp]; rfl)
        by_cases q4 : k = 4
        · subst q4
          have z0 := itoaB_size 0 (by omega)
          have z1 := itoaB_size 1 (by omega)
          have z2 : pre.size + 1 + (itoaB 1).size ≤ 9223372036854775807 := by omega
          have z2b := decide_eq_true z2
          have z2c := eq_false (Nat.not_lt.2 z2)
          have z3 : pre.size + 1 + (itoaB 0).size ≤ 9223372036854775807 := by omega
          have z3b := decide_eq_true z3
          have z3c := eq_false (Nat.not_lt.2 z3)
          have e1 : itoaB 1 = ⟨#[49]⟩ := by unfold itoaB; rw [Lib.decDigits]; rfl
          have e2 : itoaB 0 = ⟨#[48]⟩ := by unfold itoaB; rw [Lib.decDigits]; rfl
          have E1 := As.mk e1; have E2 := As.mk e2; clear e1 e2
          by_cases qv : v = 1
          · subst qv
            go_wp2_with (first | (go_at_call 19; refine (l2Bit_c _ _).mono ?_; rintro e w1 ⟨rfl, rfl⟩) | (go_at_call 17; refine (l10Plain_c 1 (by omega) (by omega) _).mono ?_; rintro e w1 ⟨rfl, hb⟩; have HB := As.mk (hq3.step hb); clear hb))
            go_ret
            refine ⟨?_, HB.out.below⟩
            exact congrArg (fun x => Ending.returned (.string x)) (show _ = dskText 4 who at_ 1 l by rw [KD.out, E1.out]; simp; rw [bapp]; rfl)
          · have bv : (v == 1) = false := by simpa using qv
            go_wp2_with (first | (go_at_call 19; refine (l2Bit_c _ _).mono ?_; rintro e w1 ⟨rfl, rfl⟩) | (go_at_call 17; refine (l10Plain_c 0 (by omega) (by omega) _).mono ?_; rintro e w1 ⟨rfl, hb⟩; have HB := As.mk (hq3.step hb); clear hb))
            go_ret
            refine ⟨?_, HB.out.below⟩
            exact congrArg (fun x => Ending.returned (.string x)) (show _ = dskText 4 who at_ v l by rw [KD.out, E2.out]; simp [qv]; rw [bapp]; rfl)
        by_cases q9 : k = 9
        · subst q9
          by_cases a1 : 0 ≤ at_ ∧ at_ ≤ 99
          · by_cases a2 : 1 ≤ v ∧ v ≤ 255
            · have e1 := decide_eq_true a1
              have e2 := decide_eq_true a2
              go_wp2_with ((go_at_call 15; refine (l1In_c _ _ _ _).mono ?_; rintro e w1 ⟨rfl, rfl⟩))
              have z1 := itoaB_size at_ (by omega)
              have z2 := itoaB_size v (by omega)
              have y1 : pre.size + 1 ≤ 9223372036854775807 := by omega
              have y1b := decide_eq_true y1
              have y1c := eq_false (Nat.not_lt.2 y1)
              have y2 : pre.size + 1 + (itoaB at_).size ≤ 9223372036854775807 := by omega
              have y2b := decide_eq_true y2
              have y2c := eq_false (Nat.not_lt.2 y2)
              have y3 : pre.size + 1 + (itoaB at_).size + 1 ≤ 9223372036854775807 := by omega
              have y3b := decide_eq_true y3
              have y3c := eq_false (Nat.not_lt.2 y3)
              have y4 : pre.size + 1 + (itoaB at_).size + 1 + (itoaB v).size ≤ 9223372036854775807 := by omega
              have y4b := decide_eq_true y4
              have y4c := eq_false (Nat.not_lt.2 y4)
              have G0 := hq3.drew
              have G1 := hq3.drewN 1
              go_region_held3 (fun w' => w'.cell? ⟨w.heap.size, 2, none⟩ = some (.int .i64 at_) ∧ w'.cell? ⟨w.heap.size, 3, none⟩ = some (.int .i64 v) ∧ KT w (.cells #[.int .i64 9, .int .i64 who, .int .i64 at_, .int .i64 v, .slice A l.length c] 27) w') (go_keep)
                (first
                  | (go_at_call_of 17 (Value.int .i64 at_); refine (plain_r w (.cells #[.int .i64 9, .int .i64 who, .int .i64 at_, .int .i64 v, .slice A l.length c] 27) 2 3 (.int .i64 at_) (.int .i64 v) at_ (by omega) (by omega) _ ?_ ?_ ?_).mono ?_; (simp [*]); (simp [*]); (simp [*]); rintro e w' ⟨rfl, hp1, hp2, hp3, hp4⟩)
                  | (go_at_call_of 17 (Value.int .i64 v); refine (plain_r w (.cells #[.int .i64 9, .int .i64 who, .int .i64 at_, .int .i64 v, .slice A l.length c] 27) 2 3 (.int .i64 at_) (.int .i64 v) v (by omega) (by omega) _ ?_ ?_ ?_).mono ?_; (simp [*]); (simp [*]); (simp [*]); rintro e w' ⟨rfl, hp1, hp2, hp3, hp4⟩))
              all_goals go_wp2
              all_goals go_ret
              all_goals
                refine ⟨?_, hp3.below⟩
                exact congrArg (fun x => Ending.returned (.string x)) (show _ = dskText 9 who at_ v l by rw [KD.out, if_neg (by omega), if_neg (by omega), if_pos trivial, if_pos ⟨a1, a2⟩]; simp only [bapp]; rfl)
            · have e1 := decide_eq_true a1
              have e2 := decide_eq_false a2
              go_wp2_with ((go_at_call 15; refine (l1In_c _ _ _ _).mono ?_; rintro e w1 ⟨rfl, rfl⟩))
              go_ret
              refine ⟨?_, hq3.below⟩
              exact congrArg (fun x => Ending.returned (.string x)) (show _ = dskText 9 who at_ v l by rw [KD.out, if_neg (by omega), if_neg (by omega), if_pos trivial, if_neg (fun h => a2 h.2)])
          · have e1 := decide_eq_false a1
            go_wp2_with ((go_at_call 15; refine (l1In_c _ _ _ _).mono ?_; rintro e w1 ⟨rfl, rfl⟩))
            go_ret
            refine ⟨?_, hq3.below⟩
            exact congrArg (fun x => Ending.returned (.string x)) (show _ = dskText 9 who at_ v l by rw [KD.out, if_neg (by omega), if_neg (by omega), if_pos trivial, if_neg (fun h => a1 h.1)])
        have b1 : (k == 1) = false := by simpa using q1
        have b2 : (k == 11) = false := by simpa using q2
        have b3 : (k == 4) = false := by simpa using q4
        have b4 : (k == 9) = false := by simpa using q9
        go_wp2
        go_ret
        refine ⟨?_, hq3.below⟩
        rw [KD.out, if_neg (by omega), if_neg q4, if_neg q9]; rfl
    · have d1 := decide_eq_true h1
      have d2 := decide_eq_false h2
      go_enter Tryd.func6, Tryd.ntmps6
      go_wp2_with ((go_at_call 15; refine (l1In_c _ _ _ _).mono ?_; rintro e w1 ⟨rfl, rfl⟩))
      go_ret
      refine ⟨?_, (Below.refl _ _).alloc (Nat.le_refl _) _⟩
      unfold dskText; rw [if_neg (fun h => h2 h.2)]; rfl
  · have d1 := decide_eq_false h1
    go_enter Tryd.func6, Tryd.ntmps6
    go_wp2_with ((go_at_call 15; refine (l1In_c _ _ _ _).mono ?_; rintro e w1 ⟨rfl, rfl⟩))
    go_ret
    refine ⟨?_, (Below.refl _ _).alloc (Nat.le_refl _) _⟩
    unfold dskText; rw [if_neg (fun h => h1 h.1)]; rfl
end Go.Proofs.YtohmnedenhngpaaDoor
