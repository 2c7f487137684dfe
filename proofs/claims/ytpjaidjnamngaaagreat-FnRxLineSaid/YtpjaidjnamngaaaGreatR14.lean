/- The first message that is on its way, by the reference. · What comes is told, by the reference. · One hears a frame, for credits, by the reference. · What happens to the first message, for credits, by the reference. · What happens, for credits, by the reference. · A step for credits, by the reference. · Codes of functions, group Draw. -/
import Derived.Test.YtpjaidjnamngaaaGreatR13
import Derived.Test.YtpjaidjnamngaaaGreatR3
import Derived.Test.YtpjaidjnamngaaaGreatProg
import Derived.Test.YtpjaidjnamngaaaGreatR4
namespace Go.Proofs.YtpjaidjnamngaaaGreat
open Go.RowKit
set_option linter.unusedVariables false
set_option linter.unusedSimpArgs false
set_option maxRecDepth 100000
set_option maxHeartbeats 1000000
theorem stoV.toRow {P : Program} {x y : Operand} {n : Nat} {d : Option Nat} {s : St} {K : St → Prop} (k j : Nat) {e sz m : Nat} {cs : List SC} {vs : List Value} (hk : look j s.L = some (.cells e cs)) (hv : allV cs = some vs) (hl : vs.length = m * sz) (hm : m ≤ 1000000000) (h : ∀ b, stoV P x y n d (rowSt s k j b e sz m vs) K) : stoV P x y n d s K := fun o h1 h2 => opT.toRow k j hk hv hl hm fun b => h b o h1 h2
theorem netV_one : ∀ {l : List Msg} {ms : List (Option Addr × Nat)} {u : Value}, u ∈ netV l ms → u.oneCell' = true
  | [], [], u, h => by simp [netV] at h
  | [], _ :: _, u, h => by simp [netV] at h
  | _ :: _, [], u, h => by simp [netV] at h
  | m :: l, (a, c) :: ms, u, h => by
    simp only [netV, List.mem_cons] at h
    rcases h with rfl | rfl | h
    · rfl
    · rfl
    · exact netV_one h
theorem bysA_frz {fr : List FR} {s : St} {R : Value → Zc → Asrt → Prop} (k : Nat) {l : List Int} {A : Option Addr} {c : Nat} (hc : l.length ≤ c) (hB : Bys l) (hk : look k s.L = some (.own (bysA l A c))) (h : ∀ z', s.z ≤ z' → By z' l (.slice A l.length c) → FinV fr ⟨s.t, del k s.L, z', s.n⟩ R) (h0 : l = [] → FinV fr ⟨s.t, s.L, s.z, s.n⟩ R) : FinV fr s R := by
  by_cases hl : l = []
  · exact h0 hl
  · unfold bysA at hk
    rw [if_neg hl] at hk
    refine FinV.frzR k hk fun A' c' z' e1 e2 e3 e4 => ?_
    injection e1 with e1 _ e5
    subst e1
    exact h z' e3 (by subst e5; exact By.mk hc hB e4)
theorem l9first0 (c : Cfg) (link : Int) (e0 e1 : End) (n0 n1 : List Msg) (msg : Msg) (rest : List Msg) (m : WM) (z : Zc) (hR : WldR z e0 e1 n0 n1 m) (hn : n0 = msg :: rest) (h30 : n0.length ≤ 1000) :
    Spec Tryz.prog 119 [wldV c link m, .int .i64 0] z (wldA e0 e1 n0 n1 m) fun u z' A' => ∃ m' A k, u = .tuple #[wldV c link m', .agg #[.bool msg.bent, .slice A msg.bytes.length k]] ∧ A' = wldA e0 e1 (if 0 = 0 then rest else n0) (if 0 = 0 then n1 else rest) m' ∧ WldR z' e0 e1 (if 0 = 0 then rest else n0) (if 0 = 0 then n1 else rest) m' ∧ By z' msg.bytes (.slice A msg.bytes.length k) := by
  subst hn
  obtain ⟨E, EC, N, NC, m0, m1, ⟨A0, C0, ms0⟩, ⟨A1, C1, ms1⟩⟩ := m
  have hok := hR.n0.ok
  have hcap := hR.n0.cap
  dsimp only at hok hcap
  cases ms0 with
  | nil => exact hok.elim
  | cons x ms =>
  obtain ⟨a, cb⟩ := x
  obtain ⟨⟨hb1, hb2⟩, hok⟩ := hok
  have hvl := netV_len hok
  have hlr : (msg :: rest).length = rest.length + 1 := rfl
  (refine spec_enterL [10, 11, 20, 21, 22, 23, 30, 31, 32, 33, 40, 41, 50, 51] Tryz.func119 ic119_ok fr119_ok Tryz.ntmps119 rfl ?_; simp only [seval, go_sem, ic119, fr119, zipL])
  refine vsI.atR 11 rfl fun hN => ?_
  have hN := hN (by omega)
  refine vsI.atR 40 rfl fun hA => ?_
  have hA := hA (by simp)
  (refine vsI.frzR 40 rfl rfl (fun A4 c4 z4 hv4 hc4 hz4 hr4 => ?_)); (first | subst hv4 | (injection hv4 with hv_1 hv_2 hv_3; subst hv_1; subst hv_3)); ((try simp only [seval, go_sem]);repeat((with_reducible first|refine vJ ?_|refine vK ?_);try simp only [seval, go_sem]))
  simp only [netV] at hr4
  ((first | refine ⟨⟨by omega, hN⟩, ?_⟩ | refine ⟨hN, ?_⟩); (try simp only [seval, go_sem]))
  (refine ldF.one _ (RdS.cell 11 rfl rfl) ?_; ((try simp only [seval, go_sem]);repeat((with_reducible first|refine vJ ?_|refine vK ?_);try simp only [seval, go_sem])))
  refine ⟨⟨by simp, hA⟩, ?_⟩
  refine ldF.agg (sz := 2) [.bool msg.bent, .slice a msg.bytes.length cb] rfl (by exact .inl (hr4.sub 0 [.bool msg.bent, .slice a msg.bytes.length cb] (fun i u hu => by rw [Nat.zero_add]; match i, hu with | 0, hu => exact hu | 1, hu => exact hu))) ?_
  simp only [seval, go_sem]
  ((try simp only [seval, go_sem]);repeat((with_reducible first|refine vJ ?_|refine vK ?_);try simp only [seval, go_sem]))
  dsimp only at hz4
  have hd : RdAt z4 (cutA A0 C0 1 2) 0 (netV rest ms) := hr4.cut (l := 1) (sz := 2) (c := C0) (by simp [hvl]; omega)
  have hR4 : WldR z4 e0 e1 (msg :: rest) n1 ⟨E, EC, N, NC, m0, m1, ⟨A0, C0, (a, cb) :: ms⟩, ⟨A1, C1, ms1⟩⟩ := ⟨hR.e0.mono hz4, hR.e1.mono hz4, hR.n0, hR.n1⟩
  (with_reducible refine joinV.id ?_; simp only [seval, go_sem])
  ((first | refine ⟨⟨by omega, hN⟩, ?_⟩ | refine ⟨hN, ?_⟩); (try simp only [seval, go_sem]))
  refine And.intro ?_ ?_
  all_goals (try simp only [seval, go_sem])
  all_goals (refine ldF.one _ (RdS.cell 11 rfl rfl) ?_; ((try simp only [seval, go_sem]);repeat((with_reducible first|refine vJ ?_|refine vK ?_);try simp only [seval, go_sem])))
  all_goals refine ⟨by omega, ?_⟩; ((try simp only [seval, go_sem]);repeat((with_reducible first|refine vJ ?_|refine vK ?_);try simp only [seval, go_sem]))
  all_goals by_cases hre : rest = []
  · subst hre
    have hms : ms = [] := by
      cases ms with
      | nil => rfl
      | cons x y => exact hok.elim
    subst hms
    simp only [seval, go_sem]
    (try with_reducible refine appM.toT ?_); (refine appM_zero atyMs (by first | exact .inl ⟨_, _, _, Nat.le_refl _, rfl⟩ | exact .inr ⟨_, _, rfl⟩) rfl ?_); ((try simp only [seval, go_sem]);repeat((with_reducible first|refine vJ ?_|refine vK ?_);try simp only [seval, go_sem]))
    ((first | refine ⟨⟨by omega, hN⟩, ?_⟩ | refine ⟨hN, ?_⟩); (try simp only [seval, go_sem]))
    refine stoV.toRow 45 4 (m := 0) (sz := 2) rfl rfl rfl (by omega) (fun b => ?_)
    simp only [seval, go_sem, rowSt, subV, subC, subE, subL]
    (refine stoV_row 11 rfl rfl rfl rfl rfl rfl rfl (by simp) ?_; simp only [seval, go_sem, putV]; ((try simp only [seval, go_sem]);repeat((with_reducible first|refine vJ ?_|refine vK ?_);try simp only [seval, go_sem])))
    refine FinV.tf (Tf.split 41 46 rfl rfl rfl) ?_
    dsimp only
    refine bysA_frz 46 hb1 hb2 rfl (fun z5 hz5 hby => ?_) (fun h0 => ?_)
    · dsimp only at hz5
      simp only [seval, go_sem]
      (refine FinV.pk 999 [10, 11, 20, 21, 22, 23, 30, 31, 32, 33, 45, 41, 50, 51] ?_); dsimp only
      (((try simp only [seval, go_sem]);repeat((with_reducible first|refine vJ ?_|refine vK ?_);try simp only [seval, go_sem])); refine FinV.own 999 rfl ?_; simp only [finE, finS, gt, look, SV.toV, SC.toV, allV, tupV, zq1, zq2, zq3, zq4, Nat.reduceAdd, Nat.reduceEqDiff, reduceCtorEq, if_true, if_false, reduceIte, Nat.succ_ne_self, true_and, zq5, zq7, zq8])
      exact ⟨⟨E, EC, N, NC, m0, m1, ⟨some ⟨b, 0, none⟩, 0, []⟩, ⟨A1, C1, ms1⟩⟩, a, cb, rfl, rfl, ⟨hR4.e0.mono hz5, hR4.e1.mono hz5, ⟨trivial, Nat.le_refl _⟩, hR4.n1⟩, hby⟩
    · dsimp only
      (refine FinV.pk 999 [10, 11, 20, 21, 22, 23, 30, 31, 32, 33, 45, 41, 50, 51] ?_); dsimp only
      (((try simp only [seval, go_sem]);repeat((with_reducible first|refine vJ ?_|refine vK ?_);try simp only [seval, go_sem])); refine FinV.own 999 rfl ?_; simp only [finE, finS, gt, look, SV.toV, SC.toV, allV, tupV, zq1, zq2, zq3, zq4, Nat.reduceAdd, Nat.reduceEqDiff, reduceCtorEq, if_true, if_false, reduceIte, Nat.succ_ne_self, true_and, zq5, zq7, zq8])
      exact ⟨⟨E, EC, N, NC, m0, m1, ⟨some ⟨b, 0, none⟩, 0, []⟩, ⟨A1, C1, ms1⟩⟩, a, cb, rfl, rfl, ⟨hR4.e0, hR4.e1, ⟨trivial, Nat.le_refl _⟩, hR4.n1⟩, by rw [h0]; exact Sl.nil _ _ _⟩
  · have hpos : 0 < rest.length := List.length_pos_iff.2 hre
    try simp only [Nat.add_sub_cancel]
    (try with_reducible refine appM.toT ?_); (refine appM_emptyO 45 atyMs rfl (by first | exact .inl ⟨_, rfl⟩ | exact .inr ⟨_, _, rfl⟩) rfl (hd) (by first | omega | (simp <;> omega)) (fun u hu => netV_one hu) (by omega) (by omega) (fun A5 c5 hc5 => ?_)); ((try simp only [seval, go_sem]);repeat((with_reducible first|refine vJ ?_|refine vK ?_);try simp only [seval, go_sem]))
    ((first | refine ⟨⟨by omega, hN⟩, ?_⟩ | refine ⟨hN, ?_⟩); (try simp only [seval, go_sem]))
    (refine stoV_row 11 rfl rfl rfl rfl rfl rfl rfl (by simp) ?_; simp only [seval, go_sem, putV]; ((try simp only [seval, go_sem]);repeat((with_reducible first|refine vJ ?_|refine vK ?_);try simp only [seval, go_sem])))
    refine FinV.tf (Tf.split 41 46 rfl rfl rfl) ?_
    dsimp only
    refine bysA_frz 46 hb1 hb2 rfl (fun z5 hz5 hby => ?_) (fun h0 => ?_)
    · dsimp only at hz5
      simp only [seval, go_sem]
      (refine FinV.pk 999 [10, 11, 20, 21, 22, 23, 30, 31, 32, 33, 45, 41, 50, 51] ?_); dsimp only
      (((try simp only [seval, go_sem]);repeat((with_reducible first|refine vJ ?_|refine vK ?_);try simp only [seval, go_sem])); refine FinV.own 999 rfl ?_; simp only [finE, finS, gt, look, SV.toV, SC.toV, allV, tupV, zq1, zq2, zq3, zq4, Nat.reduceAdd, Nat.reduceEqDiff, reduceCtorEq, if_true, if_false, reduceIte, Nat.succ_ne_self, true_and, zq5, zq7, zq8])
      exact ⟨⟨E, EC, N, NC, m0, m1, ⟨A5, c5, ms⟩, ⟨A1, C1, ms1⟩⟩, a, cb, rfl, rfl, ⟨hR4.e0.mono hz5, hR4.e1.mono hz5, ⟨hok, hc5⟩, hR4.n1⟩, hby⟩
    · dsimp only
      (refine FinV.pk 999 [10, 11, 20, 21, 22, 23, 30, 31, 32, 33, 45, 41, 50, 51] ?_); dsimp only
      (((try simp only [seval, go_sem]);repeat((with_reducible first|refine vJ ?_|refine vK ?_);try simp only [seval, go_sem])); refine FinV.own 999 rfl ?_; simp only [finE, finS, gt, look, SV.toV, SC.toV, allV, tupV, zq1, zq2, zq3, zq4, Nat.reduceAdd, Nat.reduceEqDiff, reduceCtorEq, if_true, if_false, reduceIte, Nat.succ_ne_self, true_and, zq5, zq7, zq8])
      exact ⟨⟨E, EC, N, NC, m0, m1, ⟨A5, c5, ms⟩, ⟨A1, C1, ms1⟩⟩, a, cb, rfl, rfl, ⟨hR4.e0, hR4.e1, ⟨hok, hc5⟩, hR4.n1⟩, by rw [h0]; exact Sl.nil _ _ _⟩
  · subst hre
    have hms : ms = [] := by
      cases ms with
      | nil => rfl
      | cons x y => exact hok.elim
    subst hms
    simp only [seval, go_sem]
    (try with_reducible refine appM.toT ?_); (refine appM_zero atyMs (by first | exact .inl ⟨_, _, _, Nat.le_refl _, rfl⟩ | exact .inr ⟨_, _, rfl⟩) rfl ?_); ((try simp only [seval, go_sem]);repeat((with_reducible first|refine vJ ?_|refine vK ?_);try simp only [seval, go_sem]))
    ((first | refine ⟨⟨by omega, hN⟩, ?_⟩ | refine ⟨hN, ?_⟩); (try simp only [seval, go_sem]))
    refine stoV.toRow 45 4 (m := 0) (sz := 2) rfl rfl rfl (by omega) (fun b => ?_)
    simp only [seval, go_sem, rowSt, subV, subC, subE, subL]
    (refine stoV_row 11 rfl rfl rfl rfl rfl rfl rfl (by simp) ?_; simp only [seval, go_sem, putV]; ((try simp only [seval, go_sem]);repeat((with_reducible first|refine vJ ?_|refine vK ?_);try simp only [seval, go_sem])))
    refine FinV.tf (Tf.split 41 46 rfl rfl rfl) ?_
    dsimp only
    refine bysA_frz 46 hb1 hb2 rfl (fun z5 hz5 hby => ?_) (fun h0 => ?_)
    · dsimp only at hz5
      simp only [seval, go_sem]
      (refine FinV.pk 999 [10, 11, 20, 21, 22, 23, 30, 31, 32, 33, 45, 41, 50, 51] ?_); dsimp only
      (((try simp only [seval, go_sem]);repeat((with_reducible first|refine vJ ?_|refine vK ?_);try simp only [seval, go_sem])); refine FinV.own 999 rfl ?_; simp only [finE, finS, gt, look, SV.toV, SC.toV, allV, tupV, zq1, zq2, zq3, zq4, Nat.reduceAdd, Nat.reduceEqDiff, reduceCtorEq, if_true, if_false, reduceIte, Nat.succ_ne_self, true_and, zq5, zq7, zq8])
      exact ⟨⟨E, EC, N, NC, m0, m1, ⟨some ⟨b, 0, none⟩, 0, []⟩, ⟨A1, C1, ms1⟩⟩, a, cb, rfl, rfl, ⟨hR4.e0.mono hz5, hR4.e1.mono hz5, ⟨trivial, Nat.le_refl _⟩, hR4.n1⟩, hby⟩
    · dsimp only
      (refine FinV.pk 999 [10, 11, 20, 21, 22, 23, 30, 31, 32, 33, 45, 41, 50, 51] ?_); dsimp only
      (((try simp only [seval, go_sem]);repeat((with_reducible first|refine vJ ?_|refine vK ?_);try simp only [seval, go_sem])); refine FinV.own 999 rfl ?_; simp only [finE, finS, gt, look, SV.toV, SC.toV, allV, tupV, zq1, zq2, zq3, zq4, Nat.reduceAdd, Nat.reduceEqDiff, reduceCtorEq, if_true, if_false, reduceIte, Nat.succ_ne_self, true_and, zq5, zq7, zq8])
      exact ⟨⟨E, EC, N, NC, m0, m1, ⟨some ⟨b, 0, none⟩, 0, []⟩, ⟨A1, C1, ms1⟩⟩, a, cb, rfl, rfl, ⟨hR4.e0, hR4.e1, ⟨trivial, Nat.le_refl _⟩, hR4.n1⟩, by rw [h0]; exact Sl.nil _ _ _⟩
  · have hpos : 0 < rest.length := List.length_pos_iff.2 hre
    try simp only [Nat.add_sub_cancel]
    (try with_reducible refine appM.toT ?_); (refine appM_emptyO 45 atyMs rfl (by first | exact .inl ⟨_, rfl⟩ | exact .inr ⟨_, _, rfl⟩) rfl (hd) (by first | omega | (simp <;> omega)) (fun u hu => netV_one hu) (by omega) (by omega) (fun A5 c5 hc5 => ?_)); ((try simp only [seval, go_sem]);repeat((with_reducible first|refine vJ ?_|refine vK ?_);try simp only [seval, go_sem]))
    ((first | refine ⟨⟨by omega, hN⟩, ?_⟩ | refine ⟨hN, ?_⟩); (try simp only [seval, go_sem]))
    (refine stoV_row 11 rfl rfl rfl rfl rfl rfl rfl (by simp) ?_; simp only [seval, go_sem, putV]; ((try simp only [seval, go_sem]);repeat((with_reducible first|refine vJ ?_|refine vK ?_);try simp only [seval, go_sem])))
    refine FinV.tf (Tf.split 41 46 rfl rfl rfl) ?_
    dsimp only
    refine bysA_frz 46 hb1 hb2 rfl (fun z5 hz5 hby => ?_) (fun h0 => ?_)
    · dsimp only at hz5
      simp only [seval, go_sem]
      (refine FinV.pk 999 [10, 11, 20, 21, 22, 23, 30, 31, 32, 33, 45, 41, 50, 51] ?_); dsimp only
      (((try simp only [seval, go_sem]);repeat((with_reducible first|refine vJ ?_|refine vK ?_);try simp only [seval, go_sem])); refine FinV.own 999 rfl ?_; simp only [finE, finS, gt, look, SV.toV, SC.toV, allV, tupV, zq1, zq2, zq3, zq4, Nat.reduceAdd, Nat.reduceEqDiff, reduceCtorEq, if_true, if_false, reduceIte, Nat.succ_ne_self, true_and, zq5, zq7, zq8])
      exact ⟨⟨E, EC, N, NC, m0, m1, ⟨A5, c5, ms⟩, ⟨A1, C1, ms1⟩⟩, a, cb, rfl, rfl, ⟨hR4.e0.mono hz5, hR4.e1.mono hz5, ⟨hok, hc5⟩, hR4.n1⟩, hby⟩
    · dsimp only
      (refine FinV.pk 999 [10, 11, 20, 21, 22, 23, 30, 31, 32, 33, 45, 41, 50, 51] ?_); dsimp only
      (((try simp only [seval, go_sem]);repeat((with_reducible first|refine vJ ?_|refine vK ?_);try simp only [seval, go_sem])); refine FinV.own 999 rfl ?_; simp only [finE, finS, gt, look, SV.toV, SC.toV, allV, tupV, zq1, zq2, zq3, zq4, Nat.reduceAdd, Nat.reduceEqDiff, reduceCtorEq, if_true, if_false, reduceIte, Nat.succ_ne_self, true_and, zq5, zq7, zq8])
      exact ⟨⟨E, EC, N, NC, m0, m1, ⟨A5, c5, ms⟩, ⟨A1, C1, ms1⟩⟩, a, cb, rfl, rfl, ⟨hR4.e0, hR4.e1, ⟨hok, hc5⟩, hR4.n1⟩, by rw [h0]; exact Sl.nil _ _ _⟩
theorem l9first1 (c : Cfg) (link : Int) (e0 e1 : End) (n0 n1 : List Msg) (msg : Msg) (rest : List Msg) (m : WM) (z : Zc) (hR : WldR z e0 e1 n0 n1 m) (hn : n1 = msg :: rest) (h30 : n1.length ≤ 1000) :
    Spec Tryz.prog 119 [wldV c link m, .int .i64 1] z (wldA e0 e1 n0 n1 m) fun u z' A' => ∃ m' A k, u = .tuple #[wldV c link m', .agg #[.bool msg.bent, .slice A msg.bytes.length k]] ∧ A' = wldA e0 e1 (if 1 = 0 then rest else n0) (if 1 = 0 then n1 else rest) m' ∧ WldR z' e0 e1 (if 1 = 0 then rest else n0) (if 1 = 0 then n1 else rest) m' ∧ By z' msg.bytes (.slice A msg.bytes.length k) := by
  subst hn
  obtain ⟨E, EC, N, NC, m0, m1, ⟨A0, C0, ms0⟩, ⟨A1, C1, ms1⟩⟩ := m
  have hok := hR.n1.ok
  have hcap := hR.n1.cap
  dsimp only at hok hcap
  cases ms1 with
  | nil => exact hok.elim
  | cons x ms =>
  obtain ⟨a, cb⟩ := x
  obtain ⟨⟨hb1, hb2⟩, hok⟩ := hok
  have hvl := netV_len hok
  have hlr : (msg :: rest).length = rest.length + 1 := rfl
  (refine spec_enterL [10, 11, 20, 21, 22, 23, 30, 31, 32, 33, 40, 41, 50, 51] Tryz.func119 ic119_ok fr119_ok Tryz.ntmps119 rfl ?_; simp only [seval, go_sem, ic119, fr119, zipL])
  refine vsI.atR 11 rfl fun hN => ?_
  have hN := hN (by omega)
  refine vsI.atR 50 rfl fun hA => ?_
  have hA := hA (by simp)
  (refine vsI.frzR 50 rfl rfl (fun A4 c4 z4 hv4 hc4 hz4 hr4 => ?_)); (first | subst hv4 | (injection hv4 with hv_1 hv_2 hv_3; subst hv_1; subst hv_3)); ((try simp only [seval, go_sem]);repeat((with_reducible first|refine vJ ?_|refine vK ?_);try simp only [seval, go_sem]))
  simp only [netV] at hr4
  ((first | refine ⟨⟨by omega, hN⟩, ?_⟩ | refine ⟨hN, ?_⟩); (try simp only [seval, go_sem]))
  (refine ldF.one _ (RdS.cell 11 rfl rfl) ?_; ((try simp only [seval, go_sem]);repeat((with_reducible first|refine vJ ?_|refine vK ?_);try simp only [seval, go_sem])))
  refine ⟨⟨by simp, hA⟩, ?_⟩
  refine ldF.agg (sz := 2) [.bool msg.bent, .slice a msg.bytes.length cb] rfl (by exact .inl (hr4.sub 0 [.bool msg.bent, .slice a msg.bytes.length cb] (fun i u hu => by rw [Nat.zero_add]; match i, hu with | 0, hu => exact hu | 1, hu => exact hu))) ?_
  simp only [seval, go_sem]
  ((try simp only [seval, go_sem]);repeat((with_reducible first|refine vJ ?_|refine vK ?_);try simp only [seval, go_sem]))
  dsimp only at hz4
  have hd : RdAt z4 (cutA A1 C1 1 2) 0 (netV rest ms) := hr4.cut (l := 1) (sz := 2) (c := C1) (by simp [hvl]; omega)
  have hR4 : WldR z4 e0 e1 n0 (msg :: rest) ⟨E, EC, N, NC, m0, m1, ⟨A0, C0, ms0⟩, ⟨A1, C1, (a, cb) :: ms⟩⟩ := ⟨hR.e0.mono hz4, hR.e1.mono hz4, hR.n0, hR.n1⟩
  (with_reducible refine joinV.id ?_; simp only [seval, go_sem])
  ((first | refine ⟨⟨by omega, hN⟩, ?_⟩ | refine ⟨hN, ?_⟩); (try simp only [seval, go_sem]))
  refine And.intro ?_ ?_
  all_goals (try simp only [seval, go_sem])
  all_goals (refine ldF.one _ (RdS.cell 11 rfl rfl) ?_; ((try simp only [seval, go_sem]);repeat((with_reducible first|refine vJ ?_|refine vK ?_);try simp only [seval, go_sem])))
  all_goals refine ⟨by omega, ?_⟩; ((try simp only [seval, go_sem]);repeat((with_reducible first|refine vJ ?_|refine vK ?_);try simp only [seval, go_sem]))
  all_goals by_cases hre : rest = []
  · subst hre
    have hms : ms = [] := by
      cases ms with
      | nil => rfl
      | cons x y => exact hok.elim
    subst hms
    simp only [seval, go_sem]
    (try with_reducible refine appM.toT ?_); (refine appM_zero atyMs (by first | exact .inl ⟨_, _, _, Nat.le_refl _, rfl⟩ | exact .inr ⟨_, _, rfl⟩) rfl ?_); ((try simp only [seval, go_sem]);repeat((with_reducible first|refine vJ ?_|refine vK ?_);try simp only [seval, go_sem]))
    ((first | refine ⟨⟨by omega, hN⟩, ?_⟩ | refine ⟨hN, ?_⟩); (try simp only [seval, go_sem]))
    refine stoV.toRow 45 4 (m := 0) (sz := 2) rfl rfl rfl (by omega) (fun b => ?_)
    simp only [seval, go_sem, rowSt, subV, subC, subE, subL]
    (refine stoV_row 11 rfl rfl rfl rfl rfl rfl rfl (by simp) ?_; simp only [seval, go_sem, putV]; ((try simp only [seval, go_sem]);repeat((with_reducible first|refine vJ ?_|refine vK ?_);try simp only [seval, go_sem])))
    refine FinV.tf (Tf.split 51 46 rfl rfl rfl) ?_
    dsimp only
    refine bysA_frz 46 hb1 hb2 rfl (fun z5 hz5 hby => ?_) (fun h0 => ?_)
    · dsimp only at hz5
      simp only [seval, go_sem]
      (refine FinV.pk 999 [10, 11, 20, 21, 22, 23, 30, 31, 32, 33, 40, 41, 45, 51] ?_); dsimp only
      (((try simp only [seval, go_sem]);repeat((with_reducible first|refine vJ ?_|refine vK ?_);try simp only [seval, go_sem])); refine FinV.own 999 rfl ?_; simp only [finE, finS, gt, look, SV.toV, SC.toV, allV, tupV, zq1, zq2, zq3, zq4, Nat.reduceAdd, Nat.reduceEqDiff, reduceCtorEq, if_true, if_false, reduceIte, Nat.succ_ne_self, true_and, zq5, zq7, zq8])
      exact ⟨⟨E, EC, N, NC, m0, m1, ⟨A0, C0, ms0⟩, ⟨some ⟨b, 0, none⟩, 0, []⟩⟩, a, cb, rfl, rfl, ⟨hR4.e0.mono hz5, hR4.e1.mono hz5, hR4.n0, ⟨trivial, Nat.le_refl _⟩⟩, hby⟩
    · dsimp only
      (refine FinV.pk 999 [10, 11, 20, 21, 22, 23, 30, 31, 32, 33, 40, 41, 45, 51] ?_); dsimp only
      (((try simp only [seval, go_sem]);repeat((with_reducible first|refine vJ ?_|refine vK ?_);try simp only [seval, go_sem])); refine FinV.own 999 rfl ?_; simp only [finE, finS, gt, look, SV.toV, SC.toV, allV, tupV, zq1, zq2, zq3, zq4, Nat.reduceAdd, Nat.reduceEqDiff, reduceCtorEq, if_true, if_false, reduceIte, Nat.succ_ne_self, true_and, zq5, zq7, zq8])
      exact ⟨⟨E, EC, N, NC, m0, m1, ⟨A0, C0, ms0⟩, ⟨some ⟨b, 0, none⟩, 0, []⟩⟩, a, cb, rfl, rfl, ⟨hR4.e0, hR4.e1, hR4.n0, ⟨trivial, Nat.le_refl _⟩⟩, by rw [h0]; exact Sl.nil _ _ _⟩
  · have hpos : 0 < rest.length := List.length_pos_iff.2 hre
    try simp only [Nat.add_sub_cancel]
    (try with_reducible refine appM.toT ?_); (refine appM_emptyO 45 atyMs rfl (by first | exact .inl ⟨_, rfl⟩ | exact .inr ⟨_, _, rfl⟩) rfl (hd) (by first | omega | (simp <;> omega)) (fun u hu => netV_one hu) (by omega) (by omega) (fun A5 c5 hc5 => ?_)); ((try simp only [seval, go_sem]);repeat((with_reducible first|refine vJ ?_|refine vK ?_);try simp only [seval, go_sem]))
    ((first | refine ⟨⟨by omega, hN⟩, ?_⟩ | refine ⟨hN, ?_⟩); (try simp only [seval, go_sem]))
    (refine stoV_row 11 rfl rfl rfl rfl rfl rfl rfl (by simp) ?_; simp only [seval, go_sem, putV]; ((try simp only [seval, go_sem]);repeat((with_reducible first|refine vJ ?_|refine vK ?_);try simp only [seval, go_sem])))
    refine FinV.tf (Tf.split 51 46 rfl rfl rfl) ?_
    dsimp only
    refine bysA_frz 46 hb1 hb2 rfl (fun z5 hz5 hby => ?_) (fun h0 => ?_)
    · dsimp only at hz5
      simp only [seval, go_sem]
      (refine FinV.pk 999 [10, 11, 20, 21, 22, 23, 30, 31, 32, 33, 40, 41, 45, 51] ?_); dsimp only
      (((try simp only [seval, go_sem]);repeat((with_reducible first|refine vJ ?_|refine vK ?_);try simp only [seval, go_sem])); refine FinV.own 999 rfl ?_; simp only [finE, finS, gt, look, SV.toV, SC.toV, allV, tupV, zq1, zq2, zq3, zq4, Nat.reduceAdd, Nat.reduceEqDiff, reduceCtorEq, if_true, if_false, reduceIte, Nat.succ_ne_self, true_and, zq5, zq7, zq8])
      exact ⟨⟨E, EC, N, NC, m0, m1, ⟨A0, C0, ms0⟩, ⟨A5, c5, ms⟩⟩, a, cb, rfl, rfl, ⟨hR4.e0.mono hz5, hR4.e1.mono hz5, hR4.n0, ⟨hok, hc5⟩⟩, hby⟩
    · dsimp only
      (refine FinV.pk 999 [10, 11, 20, 21, 22, 23, 30, 31, 32, 33, 40, 41, 45, 51] ?_); dsimp only
      (((try simp only [seval, go_sem]);repeat((with_reducible first|refine vJ ?_|refine vK ?_);try simp only [seval, go_sem])); refine FinV.own 999 rfl ?_; simp only [finE, finS, gt, look, SV.toV, SC.toV, allV, tupV, zq1, zq2, zq3, zq4, Nat.reduceAdd, Nat.reduceEqDiff, reduceCtorEq, if_true, if_false, reduceIte, Nat.succ_ne_self, true_and, zq5, zq7, zq8])
      exact ⟨⟨E, EC, N, NC, m0, m1, ⟨A0, C0, ms0⟩, ⟨A5, c5, ms⟩⟩, a, cb, rfl, rfl, ⟨hR4.e0, hR4.e1, hR4.n0, ⟨hok, hc5⟩⟩, by rw [h0]; exact Sl.nil _ _ _⟩
  · subst hre
    have hms : ms = [] := by
      cases ms with
      | nil => rfl
      | cons x y => exact hok.elim
    subst hms
    simp only [seval, go_sem]
    (try with_reducible refine appM.toT ?_); (refine appM_zero atyMs (by first | exact .inl ⟨_, _, _, Nat.le_refl _, rfl⟩ | exact .inr ⟨_, _, rfl⟩) rfl ?_); ((try simp only [seval, go_sem]);repeat((with_reducible first|refine vJ ?_|refine vK ?_);try simp only [seval, go_sem]))
    ((first | refine ⟨⟨by omega, hN⟩, ?_⟩ | refine ⟨hN, ?_⟩); (try simp only [seval, go_sem]))
    refine stoV.toRow 45 4 (m := 0) (sz := 2) rfl rfl rfl (by omega) (fun b => ?_)
    simp only [seval, go_sem, rowSt, subV, subC, subE, subL]
    (refine stoV_row 11 rfl rfl rfl rfl rfl rfl rfl (by simp) ?_; simp only [seval, go_sem, putV]; ((try simp only [seval, go_sem]);repeat((with_reducible first|refine vJ ?_|refine vK ?_);try simp only [seval, go_sem])))
    refine FinV.tf (Tf.split 51 46 rfl rfl rfl) ?_
    dsimp only
    refine bysA_frz 46 hb1 hb2 rfl (fun z5 hz5 hby => ?_) (fun h0 => ?_)
    · dsimp only at hz5
      simp only [seval, go_sem]
      (refine FinV.pk 999 [10, 11, 20, 21, 22, 23, 30, 31, 32, 33, 40, 41, 45, 51] ?_); dsimp only
      (((try simp only [seval, go_sem]);repeat((with_reducible first|refine vJ ?_|refine vK ?_);try simp only [seval, go_sem])); refine FinV.own 999 rfl ?_; simp only [finE, finS, gt, look, SV.toV, SC.toV, allV, tupV, zq1, zq2, zq3, zq4, Nat.reduceAdd, Nat.reduceEqDiff, reduceCtorEq, if_true, if_false, reduceIte, Nat.succ_ne_self, true_and, zq5, zq7, zq8])
      exact ⟨⟨E, EC, N, NC, m0, m1, ⟨A0, C0, ms0⟩, ⟨some ⟨b, 0, none⟩, 0, []⟩⟩, a, cb, rfl, rfl, ⟨hR4.e0.mono hz5, hR4.e1.mono hz5, hR4.n0, ⟨trivial, Nat.le_refl _⟩⟩, hby⟩
    · dsimp only
      (refine FinV.pk 999 [10, 11, 20, 21, 22, 23, 30, 31, 32, 33, 40, 41, 45, 51] ?_); dsimp only
      (((try simp only [seval, go_sem]);repeat((with_reducible first|refine vJ ?_|refine vK ?_);try simp only [seval, go_sem])); refine FinV.own 999 rfl ?_; simp only [finE, finS, gt, look, SV.toV, SC.toV, allV, tupV, zq1, zq2, zq3, zq4, Nat.reduceAdd, Nat.reduceEqDiff, reduceCtorEq, if_true, if_false, reduceIte, Nat.succ_ne_self, true_and, zq5, zq7, zq8])
      exact ⟨⟨E, EC, N, NC, m0, m1, ⟨A0, C0, ms0⟩, ⟨some ⟨b, 0, none⟩, 0, []⟩⟩, a, cb, rfl, rfl, ⟨hR4.e0, hR4.e1, hR4.n0, ⟨trivial, Nat.le_refl _⟩⟩, by rw [h0]; exact Sl.nil _ _ _⟩
  · have hpos : 0 < rest.length := List.length_pos_iff.2 hre
    try simp only [Nat.add_sub_cancel]
    (try with_reducible refine appM.toT ?_); (refine appM_emptyO 45 atyMs rfl (by first | exact .inl ⟨_, rfl⟩ | exact .inr ⟨_, _, rfl⟩) rfl (hd) (by first | omega | (simp <;> omega)) (fun u hu => netV_one hu) (by omega) (by omega) (fun A5 c5 hc5 => ?_)); ((try simp only [seval, go_sem]);repeat((with_reducible first|refine vJ ?_|refine vK ?_);try simp only [seval, go_sem]))
    ((first | refine ⟨⟨by omega, hN⟩, ?_⟩ | refine ⟨hN, ?_⟩); (try simp only [seval, go_sem]))
    (refine stoV_row 11 rfl rfl rfl rfl rfl rfl rfl (by simp) ?_; simp only [seval, go_sem, putV]; ((try simp only [seval, go_sem]);repeat((with_reducible first|refine vJ ?_|refine vK ?_);try simp only [seval, go_sem])))
    refine FinV.tf (Tf.split 51 46 rfl rfl rfl) ?_
    dsimp only
    refine bysA_frz 46 hb1 hb2 rfl (fun z5 hz5 hby => ?_) (fun h0 => ?_)
    · dsimp only at hz5
      simp only [seval, go_sem]
      (refine FinV.pk 999 [10, 11, 20, 21, 22, 23, 30, 31, 32, 33, 40, 41, 45, 51] ?_); dsimp only
      (((try simp only [seval, go_sem]);repeat((with_reducible first|refine vJ ?_|refine vK ?_);try simp only [seval, go_sem])); refine FinV.own 999 rfl ?_; simp only [finE, finS, gt, look, SV.toV, SC.toV, allV, tupV, zq1, zq2, zq3, zq4, Nat.reduceAdd, Nat.reduceEqDiff, reduceCtorEq, if_true, if_false, reduceIte, Nat.succ_ne_self, true_and, zq5, zq7, zq8])
      exact ⟨⟨E, EC, N, NC, m0, m1, ⟨A0, C0, ms0⟩, ⟨A5, c5, ms⟩⟩, a, cb, rfl, rfl, ⟨hR4.e0.mono hz5, hR4.e1.mono hz5, hR4.n0, ⟨hok, hc5⟩⟩, hby⟩
    · dsimp only
      (refine FinV.pk 999 [10, 11, 20, 21, 22, 23, 30, 31, 32, 33, 40, 41, 45, 51] ?_); dsimp only
      (((try simp only [seval, go_sem]);repeat((with_reducible first|refine vJ ?_|refine vK ?_);try simp only [seval, go_sem])); refine FinV.own 999 rfl ?_; simp only [finE, finS, gt, look, SV.toV, SC.toV, allV, tupV, zq1, zq2, zq3, zq4, Nat.reduceAdd, Nat.reduceEqDiff, reduceCtorEq, if_true, if_false, reduceIte, Nat.succ_ne_self, true_and, zq5, zq7, zq8])
      exact ⟨⟨E, EC, N, NC, m0, m1, ⟨A0, C0, ms0⟩, ⟨A5, c5, ms⟩⟩, a, cb, rfl, rfl, ⟨hR4.e0, hR4.e1, hR4.n0, ⟨hok, hc5⟩⟩, by rw [h0]; exact Sl.nil _ _ _⟩
structure TelS where
  i : Nat
  g : List (List Int)
  A : Option Addr
  C : Nat
  V : List Value
  z : Zc
theorem tell_take {got l : List (List Int)} {i : Nat} {x : List Int} (h : l[i]? = some x) : tell got (l.take (i + 1)) = if (tell got (l.take i)).length < 60 then tell got (l.take i) ++ [x] else tell got (l.take i) := by
  unfold tell
  rw [List.take_add_one, h, List.foldl_append]
  rfl
theorem l9tell0 (c : Cfg) (link : Int) (e0 e1 : End) (n0 n1 : List Msg) (m : WM) (l : List (List Int)) (v : Value) (z : Zc) (hR : WldR z e0 e1 n0 n1 m) (hv : Sl sduRep z l v) (hl : l.length ≤ 1000) (h60 : e0.got.length ≤ 60) :
    Spec Tryz.prog 142 [wldV c link m, .int .i64 0, v] z (wldA e0 e1 n0 n1 m) (WldH c ⟨c, [e0, e1].set 0 { e0 with got := tell e0.got l }, [n0, n1], link⟩) := by
  obtain ⟨A, kk, cs, rfl, hk, he, hr⟩ := hv
  (refine spec_enterL [10, 11, 20, 21, 22, 23, 30, 31, 32, 33, 40, 41, 50, 51] Tryz.func142 ic142_ok fr142_ok Tryz.ntmps142 rfl ?_; simp only [seval, go_sem, ic142, fr142, zipL])
  refine vsI.atR 10 rfl fun hE => ?_
  have hE := hE (by omega)
  ((try simp only [seval, go_sem]);repeat((with_reducible first|refine vJ ?_|refine vK ?_);try simp only [seval, go_sem]))
  refine loop_upd (ι := TelS) (n := 2) (fun s => z ≤ s.z ∧ s.i ≤ l.length ∧ s.g = tell e0.got (l.take s.i) ∧ Els sduRep s.z s.g s.V ∧ s.g.length ≤ s.C ∧ s.g.length ≤ 60) (fun s => [(7, .c (.v (.int .i64 s.i)))]) (fun s => [(10, .own (rowA tyE 28 (.slice m.E 2 m.EC) 2 (endsC { e0 with got := s.g } e1 { m.m0 with gA := s.A, gC := s.C } m.m1))), (11, .own (rowA tyN 1 (.slice m.N 2 m.NC) 2 [.slice m.n0.A n0.length m.n0.C, .slice m.n1.A n1.length m.n1.C])),
    (20, .own (rowA tyP 3 (.slice m.m0.fA e0.tx.flight.length m.m0.fC) e0.tx.flight.length m.m0.fV)), (21, .own (rowA tyP 3 (.slice m.m0.qA e0.tx.queue.length m.m0.qC) e0.tx.queue.length m.m0.qV)), (22, .own (rowA tyS 1 (.slice m.m0.pA e0.put.length m.m0.pC) e0.put.length m.m0.pV)),
    (30, .own (rowA tyP 3 (.slice m.m1.fA e1.tx.flight.length m.m1.fC) e1.tx.flight.length m.m1.fV)), (31, .own (rowA tyP 3 (.slice m.m1.qA e1.tx.queue.length m.m1.qC) e1.tx.queue.length m.m1.qV)), (32, .own (rowA tyS 1 (.slice m.m1.pA e1.put.length m.m1.pC) e1.put.length m.m1.pV)), (23, .own (rowA tyS 1 (.slice s.A s.g.length s.C) s.g.length s.V)), (33, .own (rowA tyS 1 (.slice m.m1.gA e1.got.length m.m1.gC) e1.got.length m.m1.gV)),
    (40, .own (rowA tyM 2 (.slice m.n0.A n0.length m.n0.C) n0.length (netV n0 m.n0.ms))), (41, .own (starL (netB n0 m.n0.ms))), (50, .own (rowA tyM 2 (.slice m.n1.A n1.length m.n1.C) n1.length (netV n1 m.n1.ms))), (51, .own (starL (netB n1 m.n1.ms))),
    (0, .cells 73 [.v (.int .i64 c.mode), .v (.int .i64 c.win), .v (.int .i64 c.mps), .v (.int .i64 c.mtu), .v (.int .i64 c.tri), .v (.slice m.E 2 m.EC), .v (.slice m.N 2 m.NC), .v (.int .i64 link)]), (1, .cells 73 [.v (.int .i64 0), .v (.int .i64 0), .v (.int .i64 0), .v (.int .i64 0), .v (.int .i64 0), .v (.slice none 0 0), .v (.slice none 0 0), .v (.int .i64 0)])]) (fun s => s.z) (fun s => l.length - s.i) ⟨0, e0.got, m.m0.gA, m.m0.gC, m.m0.gV, z⟩ ⟨Zc.rfl' _, by simp, by simp [tell], hR.e0.go, hR.e0.gc, h60⟩ (by (simp only [wrI, wrR, anyL, st, List.append_nil, List.nil_append, List.cons_append]); exact rfl) ?_ ?_
  · (refine Le.of ?_ ?_ rfl ?_ ⟨rfl, rfl⟩; rotate_left; (simp only [LeL, look, del, Nat.reduceEqDiff, reduceCtorEq, if_true, if_false, reduceIte, Nat.succ_ne_self, and_true, true_and, and_self]); (first | exact Nat.le_refl _ | decide | (dsimp only; omega)); (simp (disch := omega) only [LeT, updL, st, reduceCtorEq, true_or, or_true, false_or, and_true, true_and, SV.c.injEq, SC.v.injEq, Value.int.injEq, Value.slice.injEq, wrap_in, Int.natCast_add, Int.natCast_one, Int.natCast_zero, Int.cast_ofNat_Int]) <;> (try (repeat' constructor)) <;> (first | rfl | omega))
  · rintro ⟨i, g, gA, gC, gV, z1⟩ ⟨hz1, hi, hgl, hge, hgc, hg60⟩
    dsimp only at *
    ((try simp only [seval, go_sem]);repeat((with_reducible first|refine vJ ?_|refine vK ?_);try simp only [seval, go_sem]))
    (with_reducible refine condI.split (fun hg => ?_) (fun hg => ?_) <;> (try simp only [hg]) <;> (try simp only [seval, go_sem]))
    · have hi' : i < l.length := by simp at hg; omega
      obtain ⟨x, hx⟩ : ∃ x, l[i]? = some x := ⟨_, List.getElem?_eq_getElem hi'⟩
      obtain ⟨c1, ⟨v, rfl, hb⟩, hr1⟩ := (he.mono hz1).at (hr.mono hz1) hx
      obtain ⟨A1, c1, rfl, hc1, hB1, hrb⟩ := By.form hb
      have hat : IsAt A := he.isAt hr (by decide) hi'
      ((try simp only [seval, go_sem]);repeat((with_reducible first|refine vJ ?_|refine vK ?_);try simp only [seval, go_sem]))
      ((first | refine ⟨⟨by omega, hE⟩, ?_⟩ | refine ⟨hE, ?_⟩); (try simp only [seval, go_sem]))
      (refine ldF.one _ (RdS.cell 10 rfl rfl) ?_; ((try simp only [seval, go_sem]);repeat((with_reducible first|refine vJ ?_|refine vK ?_);try simp only [seval, go_sem])))
      (with_reducible refine condI.split (fun hg => ?_) (fun hg => ?_) <;> (try simp only [hg]) <;> (try simp only [seval, go_sem]))
      · ((try simp only [seval, go_sem]);repeat((with_reducible first|refine vJ ?_|refine vK ?_);try simp only [seval, go_sem]))
        (with_reducible refine joinV.id ?_; simp only [seval, go_sem])
        ((first | refine ⟨⟨by omega, hE⟩, ?_⟩ | refine ⟨hE, ?_⟩); (try simp only [seval, go_sem]))
        (refine ⟨⟨by omega, by omega, hat⟩, ?_⟩; (try simp only [seval, go_sem]))
        (refine ldF.one _ (by first | exact .inl hr1 | exact hr1) ?_; (try simp only [seval, go_sem]))
        refine And.intro ?_ ?_
        all_goals (try simp only [seval, go_sem])
        all_goals (refine ldF.one _ (RdS.cell 10 rfl rfl) ?_; ((try simp only [seval, go_sem]);repeat((with_reducible first|refine vJ ?_|refine vK ?_);try simp only [seval, go_sem])))
        all_goals (try with_reducible refine appM.toT ?_); (refine appM_newF 23 atyS rfl rfl rfl rfl rfl rfl rfl (by simp [Value.oneCell']) (by omega) (fun A6 c6 hc6 hat6 => ?_)); ((try simp only [seval, go_sem]);repeat((with_reducible first|refine vJ ?_|refine vK ?_);try simp only [seval, go_sem]))
        all_goals ((first | refine ⟨⟨by omega, hE⟩, ?_⟩ | refine ⟨hE, ?_⟩); (try simp only [seval, go_sem]))
        all_goals (refine stoV_row 10 rfl rfl rfl rfl rfl rfl rfl (by rw [endsC_len]; simp) ?_; ((try simp only [seval, go_sem]);repeat((with_reducible first|refine vJ ?_|refine vK ?_);try simp only [seval, go_sem])))
        all_goals rw [ends_got0 _ _ _ _ (g ++ [x]) _ _ _ (by simp), show g.length + 1 = (g ++ [x]).length by simp]
        all_goals refine ⟨⟨i + 1, g ++ [x], A6, c6, gV ++ [.slice A1 x.length c1], z1⟩, ⟨hz1, by dsimp only; omega, ?_, hge.append (Els.single (d := sduRep) ⟨_, rfl, By.mk hc1 hB1 hrb⟩), by simp; exact hc6, by have := of_decide_eq_true hg; simp; omega⟩, by dsimp only; omega, ?_⟩
        all_goals first
          | (dsimp only; rw [tell_take hx, ← hgl, if_pos (by have := of_decide_eq_true hg; omega)])
          | (refine Le.of ?_ ?_ rfl ?_ ⟨rfl, rfl⟩; rotate_left; (simp only [LeL, look, del, Nat.reduceEqDiff, reduceCtorEq, if_true, if_false, reduceIte, Nat.succ_ne_self, and_true, true_and, and_self]); (first | exact Nat.le_refl _ | decide | (dsimp only; omega)); (simp (disch := omega) only [LeT, updL, st, reduceCtorEq, true_or, or_true, false_or, and_true, true_and, SV.c.injEq, SC.v.injEq, Value.int.injEq, Value.slice.injEq, wrap_in, Int.natCast_add, Int.natCast_one, Int.natCast_zero, Int.cast_ofNat_Int]) <;> (try (repeat' constructor)) <;> (first | rfl | omega))
      · ((try simp only [seval, go_sem]);repeat((with_reducible first|refine vJ ?_|refine vK ?_);try simp only [seval, go_sem]))
        refine ⟨⟨i + 1, g, gA, gC, gV, z1⟩, ⟨hz1, by dsimp only; omega, by dsimp only; rw [tell_take hx, ← hgl, if_neg (by have := of_decide_eq_false hg; omega)], hge, hgc, hg60⟩, by dsimp only; omega, ?_⟩
        (refine Le.of ?_ ?_ rfl ?_ ⟨rfl, rfl⟩; rotate_left; (simp only [LeL, look, del, Nat.reduceEqDiff, reduceCtorEq, if_true, if_false, reduceIte, Nat.succ_ne_self, and_true, true_and, and_self]); (first | exact Nat.le_refl _ | decide | (dsimp only; omega)); (simp (disch := omega) only [LeT, updL, st, reduceCtorEq, true_or, or_true, false_or, and_true, true_and, SV.c.injEq, SC.v.injEq, Value.int.injEq, Value.slice.injEq, wrap_in, Int.natCast_add, Int.natCast_one, Int.natCast_zero, Int.cast_ofNat_Int]) <;> (try (repeat' constructor)) <;> (first | rfl | omega))
    · ((try simp only [seval, go_sem]);repeat((with_reducible first|refine vJ ?_|refine vK ?_);try simp only [seval, go_sem]))
      (refine FinV.pk 999 [10, 11, 20, 21, 22, 23, 30, 31, 32, 33, 40, 41, 50, 51] ?_); dsimp only
      (((try simp only [seval, go_sem]);repeat((with_reducible first|refine vJ ?_|refine vK ?_);try simp only [seval, go_sem])); refine FinV.own 999 rfl ?_; simp only [finE, finS, gt, look, SV.toV, SC.toV, allV, tupV, zq1, zq2, zq3, zq4, Nat.reduceAdd, Nat.reduceEqDiff, reduceCtorEq, if_true, if_false, reduceIte, Nat.succ_ne_self, true_and, zq5, zq7, zq8])
      have hil : i = l.length := by simp at hg; omega
      subst hil
      rw [List.take_length] at hgl
      subst hgl
      exact ⟨_, e1, n0, n1, { m with m0 := { m.m0 with gA := gA, gC := gC, gV := gV } }, rfl, rfl, rfl, rfl, rfl, ⟨{ (hR.e0.mono hz1) with go := hge, gc := hgc }, hR.e1.mono hz1, hR.n0, hR.n1⟩⟩
theorem l9tell1 (c : Cfg) (link : Int) (e0 e1 : End) (n0 n1 : List Msg) (m : WM) (l : List (List Int)) (v : Value) (z : Zc) (hR : WldR z e0 e1 n0 n1 m) (hv : Sl sduRep z l v) (hl : l.length ≤ 1000) (h60 : e1.got.length ≤ 60) :
    Spec Tryz.prog 142 [wldV c link m, .int .i64 1, v] z (wldA e0 e1 n0 n1 m) (WldH c ⟨c, [e0, e1].set 1 { e1 with got := tell e1.got l }, [n0, n1], link⟩) := by
  obtain ⟨A, kk, cs, rfl, hk, he, hr⟩ := hv
  (refine spec_enterL [10, 11, 20, 21, 22, 23, 30, 31, 32, 33, 40, 41, 50, 51] Tryz.func142 ic142_ok fr142_ok Tryz.ntmps142 rfl ?_; simp only [seval, go_sem, ic142, fr142, zipL])
  refine vsI.atR 10 rfl fun hE => ?_
  have hE := hE (by omega)
  ((try simp only [seval, go_sem]);repeat((with_reducible first|refine vJ ?_|refine vK ?_);try simp only [seval, go_sem]))
  refine loop_upd (ι := TelS) (n := 2) (fun s => z ≤ s.z ∧ s.i ≤ l.length ∧ s.g = tell e1.got (l.take s.i) ∧ Els sduRep s.z s.g s.V ∧ s.g.length ≤ s.C ∧ s.g.length ≤ 60) (fun s => [(7, .c (.v (.int .i64 s.i)))]) (fun s => [(10, .own (rowA tyE 28 (.slice m.E 2 m.EC) 2 (endsC e0 { e1 with got := s.g } m.m0 { m.m1 with gA := s.A, gC := s.C }))), (11, .own (rowA tyN 1 (.slice m.N 2 m.NC) 2 [.slice m.n0.A n0.length m.n0.C, .slice m.n1.A n1.length m.n1.C])),
    (20, .own (rowA tyP 3 (.slice m.m0.fA e0.tx.flight.length m.m0.fC) e0.tx.flight.length m.m0.fV)), (21, .own (rowA tyP 3 (.slice m.m0.qA e0.tx.queue.length m.m0.qC) e0.tx.queue.length m.m0.qV)), (22, .own (rowA tyS 1 (.slice m.m0.pA e0.put.length m.m0.pC) e0.put.length m.m0.pV)),
    (30, .own (rowA tyP 3 (.slice m.m1.fA e1.tx.flight.length m.m1.fC) e1.tx.flight.length m.m1.fV)), (31, .own (rowA tyP 3 (.slice m.m1.qA e1.tx.queue.length m.m1.qC) e1.tx.queue.length m.m1.qV)), (32, .own (rowA tyS 1 (.slice m.m1.pA e1.put.length m.m1.pC) e1.put.length m.m1.pV)), (33, .own (rowA tyS 1 (.slice s.A s.g.length s.C) s.g.length s.V)), (23, .own (rowA tyS 1 (.slice m.m0.gA e0.got.length m.m0.gC) e0.got.length m.m0.gV)),
    (40, .own (rowA tyM 2 (.slice m.n0.A n0.length m.n0.C) n0.length (netV n0 m.n0.ms))), (41, .own (starL (netB n0 m.n0.ms))), (50, .own (rowA tyM 2 (.slice m.n1.A n1.length m.n1.C) n1.length (netV n1 m.n1.ms))), (51, .own (starL (netB n1 m.n1.ms))),
    (0, .cells 73 [.v (.int .i64 c.mode), .v (.int .i64 c.win), .v (.int .i64 c.mps), .v (.int .i64 c.mtu), .v (.int .i64 c.tri), .v (.slice m.E 2 m.EC), .v (.slice m.N 2 m.NC), .v (.int .i64 link)]), (1, .cells 73 [.v (.int .i64 0), .v (.int .i64 0), .v (.int .i64 0), .v (.int .i64 0), .v (.int .i64 0), .v (.slice none 0 0), .v (.slice none 0 0), .v (.int .i64 0)])]) (fun s => s.z) (fun s => l.length - s.i) ⟨0, e1.got, m.m1.gA, m.m1.gC, m.m1.gV, z⟩ ⟨Zc.rfl' _, by simp, by simp [tell], hR.e1.go, hR.e1.gc, h60⟩ (by (simp only [wrI, wrR, anyL, st, List.append_nil, List.nil_append, List.cons_append]); exact rfl) ?_ ?_
  · (refine Le.of ?_ ?_ rfl ?_ ⟨rfl, rfl⟩; rotate_left; (simp only [LeL, look, del, Nat.reduceEqDiff, reduceCtorEq, if_true, if_false, reduceIte, Nat.succ_ne_self, and_true, true_and, and_self]); (first | exact Nat.le_refl _ | decide | (dsimp only; omega)); (simp (disch := omega) only [LeT, updL, st, reduceCtorEq, true_or, or_true, false_or, and_true, true_and, SV.c.injEq, SC.v.injEq, Value.int.injEq, Value.slice.injEq, wrap_in, Int.natCast_add, Int.natCast_one, Int.natCast_zero, Int.cast_ofNat_Int]) <;> (try (repeat' constructor)) <;> (first | rfl | omega))
  · rintro ⟨i, g, gA, gC, gV, z1⟩ ⟨hz1, hi, hgl, hge, hgc, hg60⟩
    dsimp only at *
    ((try simp only [seval, go_sem]);repeat((with_reducible first|refine vJ ?_|refine vK ?_);try simp only [seval, go_sem]))
    (with_reducible refine condI.split (fun hg => ?_) (fun hg => ?_) <;> (try simp only [hg]) <;> (try simp only [seval, go_sem]))
    · have hi' : i < l.length := by simp at hg; omega
      obtain ⟨x, hx⟩ : ∃ x, l[i]? = some x := ⟨_, List.getElem?_eq_getElem hi'⟩
      obtain ⟨c1, ⟨v, rfl, hb⟩, hr1⟩ := (he.mono hz1).at (hr.mono hz1) hx
      obtain ⟨A1, c1, rfl, hc1, hB1, hrb⟩ := By.form hb
      have hat : IsAt A := he.isAt hr (by decide) hi'
      ((try simp only [seval, go_sem]);repeat((with_reducible first|refine vJ ?_|refine vK ?_);try simp only [seval, go_sem]))
      ((first | refine ⟨⟨by omega, hE⟩, ?_⟩ | refine ⟨hE, ?_⟩); (try simp only [seval, go_sem]))
      (refine ldF.one _ (RdS.cell 10 rfl rfl) ?_; ((try simp only [seval, go_sem]);repeat((with_reducible first|refine vJ ?_|refine vK ?_);try simp only [seval, go_sem])))
      (with_reducible refine condI.split (fun hg => ?_) (fun hg => ?_) <;> (try simp only [hg]) <;> (try simp only [seval, go_sem]))
      · ((try simp only [seval, go_sem]);repeat((with_reducible first|refine vJ ?_|refine vK ?_);try simp only [seval, go_sem]))
        (with_reducible refine joinV.id ?_; simp only [seval, go_sem])
        ((first | refine ⟨⟨by omega, hE⟩, ?_⟩ | refine ⟨hE, ?_⟩); (try simp only [seval, go_sem]))
        (refine ⟨⟨by omega, by omega, hat⟩, ?_⟩; (try simp only [seval, go_sem]))
        (refine ldF.one _ (by first | exact .inl hr1 | exact hr1) ?_; (try simp only [seval, go_sem]))
        refine And.intro ?_ ?_
        all_goals (try simp only [seval, go_sem])
        all_goals (refine ldF.one _ (RdS.cell 10 rfl rfl) ?_; ((try simp only [seval, go_sem]);repeat((with_reducible first|refine vJ ?_|refine vK ?_);try simp only [seval, go_sem])))
        all_goals (try with_reducible refine appM.toT ?_); (refine appM_newF 33 atyS rfl rfl rfl rfl rfl rfl rfl (by simp [Value.oneCell']) (by omega) (fun A6 c6 hc6 hat6 => ?_)); ((try simp only [seval, go_sem]);repeat((with_reducible first|refine vJ ?_|refine vK ?_);try simp only [seval, go_sem]))
        all_goals ((first | refine ⟨⟨by omega, hE⟩, ?_⟩ | refine ⟨hE, ?_⟩); (try simp only [seval, go_sem]))
        all_goals (refine stoV_row 10 rfl rfl rfl rfl rfl rfl rfl (by rw [endsC_len]; simp) ?_; ((try simp only [seval, go_sem]);repeat((with_reducible first|refine vJ ?_|refine vK ?_);try simp only [seval, go_sem])))
        all_goals rw [ends_got1 _ _ _ _ (g ++ [x]) _ _ _ (by simp), show g.length + 1 = (g ++ [x]).length by simp]
        all_goals refine ⟨⟨i + 1, g ++ [x], A6, c6, gV ++ [.slice A1 x.length c1], z1⟩, ⟨hz1, by dsimp only; omega, ?_, hge.append (Els.single (d := sduRep) ⟨_, rfl, By.mk hc1 hB1 hrb⟩), by simp; exact hc6, by have := of_decide_eq_true hg; simp; omega⟩, by dsimp only; omega, ?_⟩
        all_goals first
          | (dsimp only; rw [tell_take hx, ← hgl, if_pos (by have := of_decide_eq_true hg; omega)])
          | (refine Le.of ?_ ?_ rfl ?_ ⟨rfl, rfl⟩; rotate_left; (simp only [LeL, look, del, Nat.reduceEqDiff, reduceCtorEq, if_true, if_false, reduceIte, Nat.succ_ne_self, and_true, true_and, and_self]); (first | exact Nat.le_refl _ | decide | (dsimp only; omega)); (simp (disch := omega) only [LeT, updL, st, reduceCtorEq, true_or, or_true, false_or, and_true, true_and, SV.c.injEq, SC.v.injEq, Value.int.injEq, Value.slice.injEq, wrap_in, Int.natCast_add, Int.natCast_one, Int.natCast_zero, Int.cast_ofNat_Int]) <;> (try (repeat' constructor)) <;> (first | rfl | omega))
      · ((try simp only [seval, go_sem]);repeat((with_reducible first|refine vJ ?_|refine vK ?_);try simp only [seval, go_sem]))
        refine ⟨⟨i + 1, g, gA, gC, gV, z1⟩, ⟨hz1, by dsimp only; omega, by dsimp only; rw [tell_take hx, ← hgl, if_neg (by have := of_decide_eq_false hg; omega)], hge, hgc, hg60⟩, by dsimp only; omega, ?_⟩
        (refine Le.of ?_ ?_ rfl ?_ ⟨rfl, rfl⟩; rotate_left; (simp only [LeL, look, del, Nat.reduceEqDiff, reduceCtorEq, if_true, if_false, reduceIte, Nat.succ_ne_self, and_true, true_and, and_self]); (first | exact Nat.le_refl _ | decide | (dsimp only; omega)); (simp (disch := omega) only [LeT, updL, st, reduceCtorEq, true_or, or_true, false_or, and_true, true_and, SV.c.injEq, SC.v.injEq, Value.int.injEq, Value.slice.injEq, wrap_in, Int.natCast_add, Int.natCast_one, Int.natCast_zero, Int.cast_ofNat_Int]) <;> (try (repeat' constructor)) <;> (first | rfl | omega))
    · ((try simp only [seval, go_sem]);repeat((with_reducible first|refine vJ ?_|refine vK ?_);try simp only [seval, go_sem]))
      (refine FinV.pk 999 [10, 11, 20, 21, 22, 23, 30, 31, 32, 33, 40, 41, 50, 51] ?_); dsimp only
      (((try simp only [seval, go_sem]);repeat((with_reducible first|refine vJ ?_|refine vK ?_);try simp only [seval, go_sem])); refine FinV.own 999 rfl ?_; simp only [finE, finS, gt, look, SV.toV, SC.toV, allV, tupV, zq1, zq2, zq3, zq4, Nat.reduceAdd, Nat.reduceEqDiff, reduceCtorEq, if_true, if_false, reduceIte, Nat.succ_ne_self, true_and, zq5, zq7, zq8])
      have hil : i = l.length := by simp at hg; omega
      subst hil
      rw [List.take_length] at hgl
      subst hgl
      exact ⟨e0, _, n0, n1, { m with m1 := { m.m1 with gA := gA, gC := gC, gV := gV } }, rfl, rfl, rfl, rfl, rfl, ⟨hR.e0.mono hz1, { (hR.e1.mono hz1) with go := hge, gc := hgc }, hR.n0, hR.n1⟩⟩
theorem frmKind {f : Frm} (h : frmOk f = true) : f.kind = 1 ∨ f.kind = 2 ∨ f.kind = 3 ∨ f.kind = 4 := by
  unfold frmOk at h
  split at h
  · omega
  · split at h
    · omega
    · split at h
      · omega
      · split at h
        · omega
        · cases h

theorem l9put_f0 (c : Cfg) (link : Int) (e0 e1 : End) (n0 n1 : List Msg) (m : WM) (v : Value) (z : Zc) (hR : WldR z e0 e1 n0 n1 m) (sdu : List Int) (hv : By z sdu v) (h60 : e0.put.length = 60) :
    Spec Tryz.prog 86 [wldV c link m, .int .i64 0, v] z (wldA e0 e1 n0 n1 m) (WldH c ⟨c, [e0, e1], [n0, n1], link⟩) := by
  obtain ⟨Av, kv, rfl, hkv, hBv, hrv⟩ := hv.form
  (refine spec_enterL [10, 11, 20, 21, 22, 23, 30, 31, 32, 33, 40, 41, 50, 51] Tryz.func86 ic86_ok fr86_ok Tryz.ntmps86 rfl ?_; simp only [seval, go_sem, ic86, fr86, zipL])
  refine vsI.atR 10 rfl fun hE => ?_
  have hE := hE (by omega)
  ((try simp only [seval, go_sem]);repeat((with_reducible first|refine vJ ?_|refine vK ?_);try simp only [seval, go_sem]))
  ((first | refine ⟨⟨by omega, hE⟩, ?_⟩ | refine ⟨hE, ?_⟩); (try simp only [seval, go_sem]))
  (refine ldF.agg (sz := 28) _ rfl (by exact .inr ⟨10, _, _, _, _, _, rfl, fun i u hu => ends_get0 hu⟩) ?_; simp only [seval, go_sem, endC]; ((try simp only [seval, go_sem]);repeat((with_reducible first|refine vJ ?_|refine vK ?_);try simp only [seval, go_sem])))
  (with_reducible refine condI.split (fun hg => ?_) (fun hg => ?_) <;> (try simp only [hg]) <;> (try simp only [seval, go_sem]))
  · ((try simp only [seval, go_sem]);repeat((with_reducible first|refine vJ ?_|refine vK ?_);try simp only [seval, go_sem]))
    (refine FinV.pk 999 [10, 11, 20, 21, 22, 23, 30, 31, 32, 33, 40, 41, 50, 51] ?_); dsimp only
    (((try simp only [seval, go_sem]);repeat((with_reducible first|refine vJ ?_|refine vK ?_);try simp only [seval, go_sem])); refine FinV.own 999 rfl ?_; simp only [finE, finS, gt, look, SV.toV, SC.toV, allV, tupV, zq1, zq2, zq3, zq4, Nat.reduceAdd, Nat.reduceEqDiff, reduceCtorEq, if_true, if_false, reduceIte, Nat.succ_ne_self, true_and, zq5, zq7, zq8])
    exact ⟨e0, e1, n0, n1, m, rfl, rfl, rfl, rfl, rfl, hR⟩
  · exfalso
    simp [h60] at hg
theorem l9put_f1 (c : Cfg) (link : Int) (e0 e1 : End) (n0 n1 : List Msg) (m : WM) (v : Value) (z : Zc) (hR : WldR z e0 e1 n0 n1 m) (sdu : List Int) (hv : By z sdu v) (h60 : e1.put.length = 60) :
    Spec Tryz.prog 86 [wldV c link m, .int .i64 1, v] z (wldA e0 e1 n0 n1 m) (WldH c ⟨c, [e0, e1], [n0, n1], link⟩) := by
  obtain ⟨Av, kv, rfl, hkv, hBv, hrv⟩ := hv.form
  (refine spec_enterL [10, 11, 20, 21, 22, 23, 30, 31, 32, 33, 40, 41, 50, 51] Tryz.func86 ic86_ok fr86_ok Tryz.ntmps86 rfl ?_; simp only [seval, go_sem, ic86, fr86, zipL])
  refine vsI.atR 10 rfl fun hE => ?_
  have hE := hE (by omega)
  ((try simp only [seval, go_sem]);repeat((with_reducible first|refine vJ ?_|refine vK ?_);try simp only [seval, go_sem]))
  ((first | refine ⟨⟨by omega, hE⟩, ?_⟩ | refine ⟨hE, ?_⟩); (try simp only [seval, go_sem]))
  (refine ldF.agg (sz := 28) _ rfl (by exact .inr ⟨10, _, _, _, _, _, rfl, fun i u hu => ends_get1 hu⟩) ?_; simp only [seval, go_sem, endC]; ((try simp only [seval, go_sem]);repeat((with_reducible first|refine vJ ?_|refine vK ?_);try simp only [seval, go_sem])))
  (with_reducible refine condI.split (fun hg => ?_) (fun hg => ?_) <;> (try simp only [hg]) <;> (try simp only [seval, go_sem]))
  · ((try simp only [seval, go_sem]);repeat((with_reducible first|refine vJ ?_|refine vK ?_);try simp only [seval, go_sem]))
    (refine FinV.pk 999 [10, 11, 20, 21, 22, 23, 30, 31, 32, 33, 40, 41, 50, 51] ?_); dsimp only
    (((try simp only [seval, go_sem]);repeat((with_reducible first|refine vJ ?_|refine vK ?_);try simp only [seval, go_sem])); refine FinV.own 999 rfl ?_; simp only [finE, finS, gt, look, SV.toV, SC.toV, allV, tupV, zq1, zq2, zq3, zq4, Nat.reduceAdd, Nat.reduceEqDiff, reduceCtorEq, if_true, if_false, reduceIte, Nat.succ_ne_self, true_and, zq5, zq7, zq8])
    exact ⟨e0, e1, n0, n1, m, rfl, rfl, rfl, rfl, rfl, hR⟩
  · exfalso
    simp [h60] at hg
theorem step_lose0 (c : Cfg) (link : Int) (e0 e1 : End) (n0 n1 : List Msg) (ev : Evt) (hk : ev.kind = 8) (hw : ev.who = 0) : step true ⟨c, [e0, e1], [n0, n1], link⟩ ev = ⟨c, [e0, e1], [n0, n1].set 0 (n0.drop 1), link⟩ := by
  obtain ⟨kind, who, at_, v, data⟩ := ev
  dsimp only at *
  subst hk hw
  rfl
theorem step_lose1 (c : Cfg) (link : Int) (e0 e1 : End) (n0 n1 : List Msg) (ev : Evt) (hk : ev.kind = 8) (hw : ev.who = 1) : step true ⟨c, [e0, e1], [n0, n1], link⟩ ev = ⟨c, [e0, e1], [n0, n1].set 1 (n1.drop 1), link⟩ := by
  obtain ⟨kind, who, at_, v, data⟩ := ev
  dsimp only at *
  subst hk hw
  rfl

set_option maxHeartbeats 4000000
def ic31 : IC := (.seq (.reg [] (xt (.mv (.const (.pointer none))) 2 .done)) (.seq (.seq (.reg [] (xt (.mv (xr 0)) 3 (xt (.len (xr 3)) 4 (xt (.bin .gtr (xr 4) (.const (.int .i64 2000))) 5 .done)))) (.cond (xr 5) (.reg [] (xt (.mv (xr 0)) 6 (xt (.slc (xr 6) none (some (.const (.int .i64 2000))) 1) 7 (xt (.mv (xr 7)) 0 .done)))) .skip)) (.seq (.reg [] (xt (.mv (xr 0)) 8 (xt (.bld [(.slice none 0 0), (.int .i64 0)] [(0, (1, (xr 8)))]) 9 (xt (.box 119 (xr 9)) 10 (xt (.mv (xr 10)) 2 .done))))) .ret)))
theorem ic31_ok : Tryz.f31.body.bind (trC Tryz.prog []) = some ic31 := by kernel_rfl
def fr31 : List FR := [(FR.t 2)]
theorem fr31_ok : fres Tryz.prog Tryz.f31.results.toList = some fr31 := by kernel_rfl
def ic53 : IC := (.seq (.reg [] (xt (.mv (.const (.int .i64 0))) 4 .done)) (.seq (.reg [] (xt (.mv (xr 0)) 7 (xt (.mv (xr 0)) 8 (xt (.nil (xr 8)) 9 (xt (.fad (xr 9) 1) 10 (xt (.ld (xr 10) 1 false) 11 (xt (.bin .add (xr 11) (.const (.int .i64 1))) 12 (xt (.nil (xr 7)) 13 (xt (.fad (xr 13) 1) 14 (.op .t (.sto (xr 14) (xr 12) 1) none none .done)))))))))) (.seq (.seq (.reg [] (xt (.mv (xr 1)) 15 (xt (.bin .lss (xr 15) (.const (.int .i64 1))) 16 (xt (.mv (xr 16)) 17 (.op .t (.mv (xr 0)) (some 18) (some (17, false)) (.op .t (.nil (xr 18)) (some 19) (some (17, false)) (.op .t (.fad (xr 19) 0) (some 20) (some (17, false)) (.op .t (.ld (xr 20) 1 false) (some 21) (some (17, false)) (.op .t (.len (xr 21)) (some 22) (some (17, false)) (.op .t (.bin .eql (xr 22) (.const (.int .i64 0))) (some 23) (some (17, false)) (xt (.pick (xr 17) (.const (.bool true)) (xr 23)) 24 .done))))))))))) (.cond (xr 24) (.seq (.reg [] (xt (.mv (.const (.int .i64 0))) 4 .done)) .ret) .skip)) (.seq (.reg [] (xt (.mv (xr 0)) 25 (xt (.nil (xr 25)) 26 (xt (.fad (xr 26) 1) 27 (xt (.ld (xr 27) 1 false) 28 (xt (.bin .sub (xr 28) (.const (.int .i64 1))) 29 (xt (.mv (xr 29)) 5 .done))))))) (.seq (.seq (.reg [] (xt (.mv (xr 5)) 30 (xt (.mv (xr 0)) 31 (xt (.nil (xr 31)) 32 (xt (.fad (xr 32) 0) 33 (xt (.ld (xr 33) 1 false) 34 (xt (.len (xr 34)) 35 (xt (.bin .lss (xr 30) (xr 35)) 36 .done)))))))) (.cond (xr 36) (.seq (.reg [] (xt (.mv (xr 0)) 37 (xt (.nil (xr 37)) 38 (xt (.fad (xr 38) 0) 39 (xt (.ld (xr 39) 1 false) 40 (xt (.mv (xr 5)) 41 (xt (.iad (xr 40) (xr 41) 1) 42 (xt (.ld (xr 42) 1 false) 43 (xt (.cvi .i64 (xr 43)) 44 (xt (.mv (xr 1)) 45 (xt (.bin .rem (xr 44) (xr 45)) 46 (xt (.mv (xr 46)) 4 .done)))))))))))) .ret) .skip)) (.seq (.reg [] (xp (.mv (xr 0)) 47 (xp (.nil (xr 47)) 48 (xp (.fad (xr 48) 0) 49 (xl (.ld (xr 49) 1 false) 50 (xp (.mv (xr 5)) 51 (xp (.mv (xr 0)) 52 (xp (.nil (xr 52)) 53 (xp (.fad (xr 53) 0) 54 (xl (.ld (xr 54) 1 false) 55 (xp (.len (xr 55)) 56 (xp (.bin .rem (xr 51) (xr 56)) 57 (xp (.iad (xr 50) (xr 57) 1) 58 (xl (.ld (xr 58) 1 false) 59 (xp (.cvi .i64 (xr 59)) 60 (xp (.bin .mul (xr 60) (.const (.int .i64 131))) 61 (xp (.mv (xr 0)) 62 (xp (.nil (xr 62)) 63 (xp (.fad (xr 63) 0) 64 (xl (.ld (xr 64) 1 false) 65 (xp (.mv (xr 5)) 66 (xp (.bin .mul (xr 66) (.const (.int .i64 7))) 67 (xp (.bin .add (xr 67) (.const (.int .i64 3))) 68 (xp (.mv (xr 0)) 69 (xp (.nil (xr 69)) 70 (xp (.fad (xr 70) 0) 71 (xl (.ld (xr 71) 1 false) 72 (xp (.len (xr 72)) 73 (xp (.bin .rem (xr 68) (xr 73)) 74 (xp (.iad (xr 65) (xr 74) 1) 75 (xl (.ld (xr 75) 1 false) 76 (xp (.cvi .i64 (xr 76)) 77 (xp (.bin .mul (xr 77) (.const (.int .i64 1117))) 78 (xp (.bin .add (xr 61) (xr 78)) 79 (xp (.mv (xr 5)) 80 (xp (.bin .mul (xr 80) (.const (.int .i64 29))) 81 (xp (.bin .add (xr 79) (xr 81)) 82 (xp (.mv (xr 5)) 83 (xp (.mv (xr 0)) 84 (xp (.nil (xr 84)) 85 (xp (.fad (xr 85) 0) 86 (xl (.ld (xr 86) 1 false) 87 (xp (.len (xr 87)) 88 (xp (.bin .quo (xr 83) (xr 88)) 89 (xp (.bin .mul (xr 89) (.const (.int .i64 53))) 90 (xp (.bin .add (xr 82) (xr 90)) 91 (xp (.mv (xr 91)) 6 .done))))))))))))))))))))))))))))))))))))))))))))))) (.seq (.reg [] (xt (.mv (xr 6)) 92 (xt (.mv (xr 6)) 93 (xt (.bin .quo (xr 93) (.const (.int .i64 64))) 94 (xt (.bin .xor (xr 92) (xr 94)) 95 (xt (.mv (xr 95)) 6 .done)))))) (.seq (.reg [] (xt (.mv (xr 6)) 96 (xt (.mv (xr 1)) 97 (xt (.bin .rem (xr 96) (xr 97)) 98 (xt (.mv (xr 98)) 4 .done))))) .ret))))))))
theorem ic53_ok : Tryz.f53.body.bind (trC Tryz.prog []) = some ic53 := by kernel_rfl
def fr53 : List FR := [(FR.t 4)]
theorem fr53_ok : fres Tryz.prog Tryz.f53.results.toList = some fr53 := by kernel_rfl
def ic80 : IC := (.seq (.reg [] (xt (.mv (.const (.bool false))) 4 .done)) (.seq (.reg [] (xt (.mv (xr 1)) 5 (xt (.bin .gtr (xr 5) (.const (.int .i64 0))) 6 (xt (.mv (xr 6)) 7 (.op .t (.mv (xr 0)) (some 8) (some (7, true)) (.op .t (.mv (xr 1)) (some 9) (some (7, true)) (.op .t (.call 53 [xr 8, xr 9]) (some 10) (some (7, true)) (.op .t (.mv (xr 1)) (some 11) (some (7, true)) (.op .t (.bin .sub (xr 11) (.const (.int .i64 1))) (some 12) (some (7, true)) (.op .t (.bin .eql (xr 10) (xr 12)) (some 13) (some (7, true)) (xt (.pick (xr 7) (xr 13) (.const (.bool false))) 14 (xt (.mv (xr 14)) 4 .done)))))))))))) .ret))
theorem ic80_ok : Tryz.f80.body.bind (trC Tryz.prog []) = some ic80 := by kernel_rfl
def fr80 : List FR := [(FR.t 4)]
theorem fr80_ok : fres Tryz.prog Tryz.f80.results.toList = some fr80 := by kernel_rfl
def ic82 : IC := (.seq (.reg [] (xt (.mv (.const (.slice none 0 0))) 4 .done)) (.seq (.reg [] (xt (.bsl 5 1 0 [(.int .u8 0)] []) 7 (xt (.mv (xr 7)) 5 .done))) (.seq (.seq (.reg [] (xt (.mv (xr 0)) 8 (xt (.mv (xr 1)) 9 (xt (.bin .add (xr 9) (.const (.int .i64 1))) 10 (xt (.call 53 [xr 8, xr 10]) 11 (xt (.mv (xr 11)) 6 .done)))))) (.block 0 (.loop (.seq (.seq (.reg [] (xt (.mv (xr 6)) 12 (xt (.bin .gtr (xr 12) (.const (.int .i64 0))) 13 .done))) (.cond (xr 13) .skip (.exit 0))) (.seq (.block 1 (.reg [] (xt (.mv (xr 5)) 16 (xt (.mv (xr 0)) 17 (xt (.call 53 [xr 17, (.const (.int .i64 256))]) 18 (xt (.mv (xr 0)) 19 (xt (.call 53 [xr 19, (.const (.int .i64 4))]) 20 (xt (.bsl 3 1 3 [(.int .i64 0)] [(0, (xr 18)), (1, (xr 20)), (2, (.const (.int .i64 255)))]) 21 (xt (.mv (xr 0)) 22 (xt (.call 53 [xr 22, (.const (.int .i64 3))]) 23 (xt (.iad (xr 21) (xr 23) 1) 24 (xt (.ld (xr 24) 1 false) 25 (xt (.cvi .u8 (xr 25)) 26 (xt (.bsl 5 1 1 [(.int .u8 0)] [(0, (xr 26))]) 27 (xt (.app 22 (xr 16) (xr 27)) 28 (xt (.mv (xr 28)) 5 .done)))))))))))))))) (.reg [] (xt (.mv (xr 6)) 14 (xt (.bin .sub (xr 14) (.const (.int .i64 1))) 15 (xt (.mv (xr 15)) 6 .done))))))))) (.seq (.reg [] (xt (.mv (xr 5)) 29 (xt (.mv (xr 29)) 4 .done))) .ret))))
theorem ic82_ok : Tryz.f82.body.bind (trC Tryz.prog []) = some ic82 := by kernel_rfl
def fr82 : List FR := [(FR.t 4)]
theorem fr82_ok : fres Tryz.prog Tryz.f82.results.toList = some fr82 := by kernel_rfl
def ic60 : IC := (.seq (.reg [] (xt (.box 73 (xr 1)) 5 (xt (.alc 37 [(.int .i64 0), (.int .i64 0), (.int .i64 0), (.int .i64 0), (.slice none 0 0)]) 8 .done))) (.seq (.reg [] (xt (.mv (xr 0)) 11 (xt (.call 53 [xr 11, (.const (.int .i64 2))]) 12 (xt (.mv (xr 12)) 9 .done)))) (.seq (.seq (.reg [] (xt (.mv (xr 0)) 13 (xt (.call 53 [xr 13, (.const (.int .i64 20))]) 14 .done))) (.block 0 (.seq (.seq (.reg [] (xt (.bin .eql (xr 14) (.const (.int .i64 0))) 16 (xt (.mv (xr 16)) 15 .done))) (.cond (xr 15) .skip (.seq (.reg [] (xt (.bin .eql (xr 14) (.const (.int .i64 1))) 17 (xt (.mv (xr 17)) 15 .done))) (.cond (xr 15) .skip (.reg [] (xt (.bin .eql (xr 14) (.const (.int .i64 2))) 18 (xt (.mv (xr 18)) 15 .done))))))) (.cond (xr 15) (.seq (.reg [8] (xp (.mv (xr 9)) 19 (xp (.mv (xr 0)) 20 (xp (.fad (xr 5) 0) 21 (xp (.fad (xr 21) 3) 22 (xl (.ld (xr 22) 1 false) 23 (xp (.mv (xr 0)) 24 (xm (.call 53 [xr 24, (.const (.int .i64 2))]) 25 (xp (.bin .add (xr 23) (xr 25)) 26 (xm (.call 82 [xr 20, xr 26]) 27 (xp (.bld [(.int .i64 0), (.int .i64 0), (.int .i64 0), (.int .i64 0), (.slice none 0 0)] [(0, (1, (.const (.int .i64 1)))), (1, (1, (xr 19))), (4, (1, (xr 27)))]) 28 (.op .m (.sto (xr 8) (xr 28) 5) none none .done)))))))))))) .ret) (.seq (.seq (.reg [] (xt (.bin .eql (xr 14) (.const (.int .i64 3))) 30 (xt (.mv (xr 30)) 29 .done))) (.cond (xr 29) .skip (.seq (.reg [] (xt (.bin .eql (xr 14) (.const (.int .i64 4))) 31 (xt (.mv (xr 31)) 29 .done))) (.cond (xr 29) .skip (.seq (.reg [] (xt (.bin .eql (xr 14) (.const (.int .i64 5))) 32 (xt (.mv (xr 32)) 29 .done))) (.cond (xr 29) .skip (.reg [] (xt (.bin .eql (xr 14) (.const (.int .i64 6))) 33 (xt (.mv (xr 33)) 29 .done))))))))) (.cond (xr 29) (.seq (.reg [] (xt (.mv (xr 9)) 34 (xt (.bld [(.int .i64 0), (.int .i64 0), (.int .i64 0), (.int .i64 0), (.slice none 0 0)] [(0, (1, (.const (.int .i64 2)))), (1, (1, (xr 34)))]) 35 (.op .t (.sto (xr 8) (xr 35) 5) none none .done)))) .ret) (.seq (.reg [] (xt (.bin .eql (xr 14) (.const (.int .i64 7))) 37 (xt (.mv (xr 37)) 36 .done))) (.cond (xr 36) (.seq (.reg [] (xt (.mv (xr 9)) 38 (xt (.bld [(.int .i64 0), (.int .i64 0), (.int .i64 0), (.int .i64 0), (.slice none 0 0)] [(0, (1, (.const (.int .i64 3)))), (1, (1, (xr 38)))]) 39 (.op .t (.sto (xr 8) (xr 39) 5) none none .done)))) .ret) (.seq (.reg [] (xt (.bin .eql (xr 14) (.const (.int .i64 8))) 41 (xt (.mv (xr 41)) 40 .done))) (.cond (xr 40) (.seq (.reg [] (xt (.mv (xr 9)) 42 (xt (.mv (xr 0)) 43 (xt (.call 53 [xr 43, (.const (.int .i64 2))]) 44 (xt (.mv (xr 0)) 45 (xt (.call 53 [xr 45, (.const (.int .i64 2))]) 46 (xt (.bin .mul (xr 44) (xr 46)) 47 (xt (.bld [(.int .i64 0), (.int .i64 0), (.int .i64 0), (.int .i64 0), (.slice none 0 0)] [(0, (1, (.const (.int .i64 4)))), (1, (1, (xr 42))), (3, (1, (xr 47)))]) 48 (.op .t (.sto (xr 8) (xr 48) 5) none none .done))))))))) .ret) (.seq (.reg [] (xt (.bin .eql (xr 14) (.const (.int .i64 9))) 50 (xt (.mv (xr 50)) 49 .done))) (.cond (xr 49) (.seq (.reg [] (xt (.mv (xr 9)) 51 (xt (.bld [(.int .i64 0), (.int .i64 0), (.int .i64 0), (.int .i64 0), (.slice none 0 0)] [(0, (1, (.const (.int .i64 5)))), (1, (1, (xr 51)))]) 52 (.op .t (.sto (xr 8) (xr 52) 5) none none .done)))) .ret) (.seq (.reg [] (xt (.bin .eql (xr 14) (.const (.int .i64 10))) 54 (xt (.mv (xr 54)) 53 .done))) (.cond (xr 53) (.seq (.reg [] (xt (.mv (xr 9)) 55 (xt (.bld [(.int .i64 0), (.int .i64 0), (.int .i64 0), (.int .i64 0), (.slice none 0 0)] [(0, (1, (.const (.int .i64 6)))), (1, (1, (xr 55)))]) 56 (.op .t (.sto (xr 8) (xr 56) 5) none none .done)))) .ret) (.seq (.reg [] (xt (.bin .eql (xr 14) (.const (.int .i64 11))) 58 (xt (.mv (xr 58)) 57 .done))) (.cond (xr 57) (.seq (.reg [] (xt (.mv (xr 2)) 59 .done)) (.cond (xr 59) (.seq (.reg [] (xt (.mv (xr 9)) 60 (xt (.bld [(.int .i64 0), (.int .i64 0), (.int .i64 0), (.int .i64 0), (.slice none 0 0)] [(0, (1, (.const (.int .i64 8)))), (1, (1, (xr 60)))]) 61 (.op .t (.sto (xr 8) (xr 61) 5) none none .done)))) .ret) .skip)) (.seq (.reg [] (xt (.bin .eql (xr 14) (.const (.int .i64 12))) 63 (xt (.mv (xr 63)) 62 .done))) (.cond (xr 62) (.seq (.reg [] (xt (.mv (xr 2)) 64 .done)) (.cond (xr 64) (.seq (.reg [] (xt (.mv (xr 9)) 65 (xt (.mv (xr 0)) 66 (xt (.call 53 [xr 66, (.const (.int .i64 16))]) 67 (xt (.mv (xr 0)) 68 (xt (.call 53 [xr 68, (.const (.int .i64 255))]) 69 (xt (.bin .add (.const (.int .i64 1)) (xr 69)) 70 (xt (.bld [(.int .i64 0), (.int .i64 0), (.int .i64 0), (.int .i64 0), (.slice none 0 0)] [(0, (1, (.const (.int .i64 9)))), (1, (1, (xr 65))), (2, (1, (xr 67))), (3, (1, (xr 70)))]) 71 (.op .t (.sto (xr 8) (xr 71) 5) none none .done))))))))) .ret) .skip)) (.seq (.reg [] (xt (.bin .eql (xr 14) (.const (.int .i64 13))) 73 (xt (.mv (xr 73)) 72 .done))) (.cond (xr 72) (.seq (.seq (.reg [] (xt (.mv (xr 2)) 74 (xt (.mv (xr 74)) 75 (.op .t (.mv (xr 0)) (some 76) (some (75, true)) (.op .t (.call 53 [xr 76, (.const (.int .i64 4))]) (some 77) (some (75, true)) (.op .t (.bin .eql (xr 77) (.const (.int .i64 0))) (some 78) (some (75, true)) (xt (.pick (xr 75) (xr 78) (.const (.bool false))) 79 .done))))))) (.cond (xr 79) (.seq (.reg [] (xt (.bld [(.int .i64 0), (.int .i64 0), (.int .i64 0), (.int .i64 0), (.slice none 0 0)] [(0, (1, (.const (.int .i64 10))))]) 80 (.op .t (.sto (xr 8) (xr 80) 5) none none .done))) .ret) .skip)) (.seq (.reg [] (xt (.mv (xr 3)) 81 .done)) (.cond (xr 81) (.seq (.reg [] (xt (.mv (xr 0)) 82 (xt (.call 84 [xr 82, (.const (.int .i64 0))]) 83 (xt (.call 83 [xr 83]) 84 (xt (.mv (xr 84)) 10 .done))))) (.seq (.seq (.reg [] (xt (.mv (xr 0)) 85 (xt (.call 53 [xr 85, (.const (.int .i64 4))]) 86 (xt (.bin .eql (xr 86) (.const (.int .i64 0))) 87 .done)))) (.cond (xr 87) (.reg [] (xt (.mv (xr 0)) 88 (xt (.call 82 [xr 88, (.const (.int .i64 15))]) 89 (xt (.mv (xr 89)) 10 .done)))) .skip)) (.seq (.reg [] (xt (.mv (xr 9)) 90 (xt (.mv (xr 10)) 91 (xt (.bld [(.int .i64 0), (.int .i64 0), (.int .i64 0), (.int .i64 0), (.slice none 0 0)] [(0, (1, (.const (.int .i64 11)))), (1, (1, (xr 90))), (4, (1, (xr 91)))]) 92 (.op .t (.sto (xr 8) (xr 92) 5) none none .done))))) .ret))) .skip))) .skip)))))))))))))))))))) (.seq (.reg [] (xt (.mv (xr 9)) 93 (xt (.bld [(.int .i64 0), (.int .i64 0), (.int .i64 0), (.int .i64 0), (.slice none 0 0)] [(0, (1, (.const (.int .i64 7)))), (1, (1, (xr 93)))]) 94 (.op .t (.sto (xr 8) (xr 94) 5) none none .done)))) .ret))))
theorem ic60_ok : Tryz.f60.body.bind (trC Tryz.prog []) = some ic60 := by kernel_rfl
def fr60 : List FR := [(FR.c 8 5 true)]
theorem fr60_ok : fres Tryz.prog Tryz.f60.results.toList = some fr60 := by kernel_rfl
def ic30 : IC := (.seq (.reg [] (xt (.alc 24 [(.int .i64 0), (.int .i64 0), (.int .i64 0), (.int .i64 0), (.int .i64 0)]) 10 (xt (.mv (.const (.slice none 0 0))) 11 (xt (.alc 73 [(.int .i64 0), (.int .i64 0), (.int .i64 0), (.int .i64 0), (.int .i64 0), (.slice none 0 0), (.slice none 0 0), (.int .i64 0)]) 12 .done)))) (.seq (.reg [] (xt (.mv (xr 0)) 18 (xt (.call 58 [xr 18, (.const (.int .i64 0))]) 19 (xt (.alc 24 [(.int .i64 0), (.int .i64 0), (.int .i64 0), (.int .i64 0), (.int .i64 0)]) 13 (.op .t (.sto (xr 13) (xr 19) 5) none none .done))))) (.seq (.seq (.reg [] (xt (.mv (xr 2)) 20 (xt (.bin .gtr (xr 20) (.const (.int .i64 0))) 21 .done))) (.cond (xr 21) (.reg [] (xt (.mv (xr 2)) 22 (xt (.fad (xr 13) 0) 23 (.op .t (.sto (xr 23) (xr 22) 1) none none .done)))) .skip)) (.seq (.reg [] (xt (.ld (xr 13) 5 true) 24 (xt (.call 59 [xr 24]) 25 (xt (.alc 73 [(.int .i64 0), (.int .i64 0), (.int .i64 0), (.int .i64 0), (.int .i64 0), (.slice none 0 0), (.slice none 0 0), (.int .i64 0)]) 14 (.op .t (.sto (xr 14) (xr 25) 8) none none .done))))) (.seq (.reg [] (xt (.bsl 37 5 0 [(.int .i64 0), (.int .i64 0), (.int .i64 0), (.int .i64 0), (.slice none 0 0)] []) 26 (xt (.mv (xr 26)) 15 .done))) (.seq (.seq (.reg [] (xt (.mv (xr 0)) 27 (xt (.mv (xr 1)) 28 (xt (.call 53 [xr 27, xr 28]) 29 (xt (.mv (xr 29)) 16 .done))))) (.block 0 (.loop (.seq (.seq (.reg [] (xt (.mv (xr 16)) 30 (xt (.bin .gtr (xr 30) (.const (.int .i64 0))) 31 .done))) (.cond (xr 31) .skip (.exit 0))) (.seq (.block 1 (.seq (.reg [] (xt (.mv (xr 0)) 34 (xt (.ld (xr 14) 8 true) 35 (xt (.mv (xr 3)) 36 (xt (.mv (xr 4)) 37 (xt (.call 60 [xr 34, xr 35, xr 36, xr 37]) 38 (xt (.alc 37 [(.int .i64 0), (.int .i64 0), (.int .i64 0), (.int .i64 0), (.slice none 0 0)]) 17 (.op .t (.sto (xr 17) (xr 38) 5) none none .done)))))))) (.seq (.reg [] (xt (.mv (xr 15)) 39 (xt (.ld (xr 17) 5 true) 40 (xt (.bsl 37 5 1 [(.int .i64 0), (.int .i64 0), (.int .i64 0), (.int .i64 0), (.slice none 0 0)] [(0, (xr 40))]) 41 (xt (.app 25 (xr 39) (xr 41)) 42 (xt (.mv (xr 42)) 15 .done)))))) (.reg [] (xt (.ld (xr 14) 8 true) 43 (xt (.ld (xr 17) 5 true) 44 (xt (.call 61 [xr 43, xr 44]) 45 (.op .t (.sto (xr 14) (xr 45) 8) none none .done)))))))) (.reg [] (xt (.mv (xr 16)) 32 (xt (.bin .sub (xr 32) (.const (.int .i64 1))) 33 (xt (.mv (xr 33)) 16 .done))))))))) (.seq (.reg [10, 12] (xl (.ld (xr 13) 5 true) 46 (xp (.mv (xr 15)) 47 (xl (.ld (xr 14) 8 true) 48 (xm (.call 62 [xr 48]) 49 (.op .m (.sto (xr 10) (xr 46) 5) none none (xp (.mv (xr 47)) 11 (.op .m (.sto (xr 12) (xr 49) 8) none none .done)))))))) .ret)))))))
theorem ic30_ok : Tryz.f30.body.bind (trC Tryz.prog []) = some ic30 := by kernel_rfl
def fr30 : List FR := [(FR.c 10 5 true), (FR.t 11), (FR.c 12 8 true)]
theorem fr30_ok : fres Tryz.prog Tryz.f30.results.toList = some fr30 := by kernel_rfl
def ic43 : IC := (.seq (.reg [] (xt (.mv (.const (.bool false))) 4 .done)) (.seq (.seq (.reg [] (xt (.mv (xr 0)) 6 (xt (.len (xr 6)) 7 (xt (.mv (xr 1)) 8 (xt (.len (xr 8)) 9 (xt (.bin .neq (xr 7) (xr 9)) 10 .done)))))) (.cond (xr 10) (.seq (.reg [] (xt (.mv (.const (.bool false))) 4 .done)) .ret) .skip)) (.seq (.seq (.reg [] (xt (.mv (.const (.int .i64 0))) 5 .done)) (.block 0 (.loop (.seq (.seq (.reg [] (xt (.mv (xr 5)) 11 (xt (.mv (xr 0)) 12 (xt (.len (xr 12)) 13 (xt (.bin .lss (xr 11) (xr 13)) 14 .done))))) (.cond (xr 14) .skip (.exit 0))) (.seq (.block 1 (.seq (.reg [] (xp (.mv (xr 0)) 17 (xp (.mv (xr 5)) 18 (xp (.iad (xr 17) (xr 18) 1) 19 (xl (.ld (xr 19) 1 false) 20 (xp (.mv (xr 1)) 21 (xp (.mv (xr 5)) 22 (xp (.iad (xr 21) (xr 22) 1) 23 (xl (.ld (xr 23) 1 false) 24 (xp (.bin .neq (xr 20) (xr 24)) 25 .done)))))))))) (.cond (xr 25) (.seq (.reg [] (xt (.mv (.const (.bool false))) 4 .done)) .ret) .skip))) (.reg [] (xt (.mv (xr 5)) 15 (xt (.bin .add (xr 15) (.const (.int .i64 1))) 16 (xt (.mv (xr 16)) 5 .done))))))))) (.seq (.reg [] (xt (.mv (.const (.bool true))) 4 .done)) .ret))))
theorem ic43_ok : Tryz.f43.body.bind (trC Tryz.prog []) = some ic43 := by kernel_rfl
def fr43 : List FR := [(FR.t 4)]
theorem fr43_ok : fres Tryz.prog Tryz.f43.results.toList = some fr43 := by kernel_rfl
def ic15 : IC := (.seq (.reg [] (xt (.mv (.const (.bool false))) 4 .done)) (.seq (.seq (.reg [] (xt (.mv (xr 0)) 6 (xt (.len (xr 6)) 7 (xt (.mv (xr 1)) 8 (xt (.len (xr 8)) 9 (xt (.bin .neq (xr 7) (xr 9)) 10 .done)))))) (.cond (xr 10) (.seq (.reg [] (xt (.mv (.const (.bool false))) 4 .done)) .ret) .skip)) (.seq (.seq (.reg [] (xt (.mv (.const (.int .i64 0))) 5 .done)) (.block 0 (.loop (.seq (.seq (.reg [] (xt (.mv (xr 5)) 11 (xt (.mv (xr 0)) 12 (xt (.len (xr 12)) 13 (xt (.bin .lss (xr 11) (xr 13)) 14 .done))))) (.cond (xr 14) .skip (.exit 0))) (.seq (.block 1 (.seq (.reg [] (xp (.mv (xr 0)) 17 (xp (.mv (xr 5)) 18 (xp (.iad (xr 17) (xr 18) 1) 19 (xl (.ld (xr 19) 1 false) 20 (xp (.mv (xr 1)) 21 (xp (.mv (xr 5)) 22 (xp (.iad (xr 21) (xr 22) 1) 23 (xl (.ld (xr 23) 1 false) 24 (xm (.call 43 [xr 20, xr 24]) 25 (xp (.not (xr 25)) 26 .done))))))))))) (.cond (xr 26) (.seq (.reg [] (xt (.mv (.const (.bool false))) 4 .done)) .ret) .skip))) (.reg [] (xt (.mv (xr 5)) 15 (xt (.bin .add (xr 15) (.const (.int .i64 1))) 16 (xt (.mv (xr 16)) 5 .done))))))))) (.seq (.reg [] (xt (.mv (.const (.bool true))) 4 .done)) .ret))))
theorem ic15_ok : Tryz.f15.body.bind (trC Tryz.prog []) = some ic15 := by kernel_rfl
def fr15 : List FR := [(FR.t 4)]
theorem fr15_ok : fres Tryz.prog Tryz.f15.results.toList = some fr15 := by kernel_rfl
def ic16 : IC := (.seq (.reg [] (xt (.mv (.const (.bool false))) 0 .done)) (.seq (.reg [] (xt (.bld [(.int .i64 0), (.int .i64 0), (.int .i64 0), (.int .i64 0), (.int .i64 0)] [(0, (1, (.const (.int .i64 1)))), (1, (1, (.const (.int .i64 1)))), (2, (1, (.const (.int .i64 1)))), (3, (1, (.const (.int .i64 1)))), (4, (1, (.const (.int .i64 1))))]) 1 (xt (.call 38 [xr 1]) 2 (xt (.mv (xr 2)) 0 .done)))) .ret))
theorem ic16_ok : Tryz.f16.body.bind (trC Tryz.prog []) = some ic16 := by kernel_rfl
def fr16 : List FR := [(FR.t 0)]
theorem fr16_ok : fres Tryz.prog Tryz.f16.results.toList = some fr16 := by kernel_rfl
end Go.Proofs.YtpjaidjnamngaaaGreat
