/- The first message that is on its way, by the reference. · What comes is told, by the reference. · One hears a frame, for credits, by the reference. · What happens to the first message, for credits, by the reference. · What happens, for credits, by the reference. · A step for credits, by the reference. · Codes of functions, group Draw. · What a draw picks. · What is drawn: codes opened, bytes. · What is drawn to happen, on a link that keeps all. · Two ends at their beginning, by the reference. · Two ends at their beginning, by the reference: the walk. · Two ends that stay. -/
import Derived.Test.YtnkhjnieidlknaaGreatB12
import Derived.Test.YtnkhjnieidlknaaGreatB7
import Derived.Test.YtnkhjnieidlknaaGreatB3
import Derived.Test.YtnkhjnieidlknaaGreatProg
import Derived.Test.YtnkhjnieidlknaaGreatB4
import Derived.LoopN
namespace Go.Proofs.YtnkhjnieidlknaaGreat
open Go.RowKit
set_option linter.unusedVariables false
set_option linter.unusedSimpArgs false
set_option maxRecDepth 100000
set_option maxHeartbeats 1000000
theorem stoV.toRow {P : Program} {x y : Operand} {n : Nat} {d : Option Nat} {s : St} {K : St → Prop} (k j : Nat) {e sz m : Nat} {cs : List SC} {vs : List Value} (hk : look j s.L = some (.cells e cs)) (hv : allV cs = some vs) (hl : vs.length = m * sz) (hm : m ≤ 1000000000) (h : ∀ b, stoV P x y n d (rowSt s k j b e sz m vs) K) : stoV P x y n d s K := fun o h1 h2 => opT.toRow k j hk hv hl hm fun b => h b o h1 h2
theorem netV_one : ∀ {l : List Msg} {ms : List (Option Addr × Nat)} {u : Value}, u ∈ netV l ms → u.oneCell' = true
  | [], [], u, h => by simp [netV] at h
  | [], _ :: _, u, h => by simp [netV] at h
  | _ :: _, [], u, h => by simp [netV] at h
  | m :: l, (a, c) :: ms, u, h => by
    simp only [netV, List.mem_cons] at h
    rcases h with rfl | rfl | h
    · rfl
    · rfl
    · exact netV_one h
theorem bysA_frz {fr : List FR} {s : St} {R : Value → Zc → Asrt → Prop} (k : Nat) {l : List Int} {A : Option Addr} {c : Nat} (hc : l.length ≤ c) (hB : Bys l) (hk : look k s.L = some (.own (bysA l A c))) (h : ∀ z', s.z ≤ z' → By z' l (.slice A l.length c) → FinV fr ⟨s.t, del k s.L, z', s.n⟩ R) (h0 : l = [] → FinV fr ⟨s.t, s.L, s.z, s.n⟩ R) : FinV fr s R := by
  by_cases hl : l = []
  · exact h0 hl
  · unfold bysA at hk
    rw [if_neg hl] at hk
    refine FinV.frzR k hk fun A' c' z' e1 e2 e3 e4 => ?_
    injection e1 with e1 _ e5
    subst e1
    exact h z' e3 (by subst e5; exact By.mk hc hB e4)
theorem l9first0 (c : Cfg) (link : Int) (e0 e1 : End) (n0 n1 : List Msg) (msg : Msg) (rest : List Msg) (m : WM) (z : Zc) (hR : WldR z e0 e1 n0 n1 m) (hn : n0 = msg :: rest) (h30 : n0.length ≤ 1000) :
    Spec Tryz.prog 125 [wldV c link m, .int .i64 0] z (wldA e0 e1 n0 n1 m) fun u z' A' => ∃ m' A k, u = .tuple #[wldV c link m', .agg #[.bool msg.bent, .slice A msg.bytes.length k]] ∧ A' = wldA e0 e1 (if 0 = 0 then rest else n0) (if 0 = 0 then n1 else rest) m' ∧ WldR z' e0 e1 (if 0 = 0 then rest else n0) (if 0 = 0 then n1 else rest) m' ∧ By z' msg.bytes (.slice A msg.bytes.length k) := by
  subst hn
  obtain ⟨E, EC, N, NC, m0, m1, ⟨A0, C0, ms0⟩, ⟨A1, C1, ms1⟩⟩ := m
  have hok := hR.n0.ok
  have hcap := hR.n0.cap
  dsimp only at hok hcap
  cases ms0 with
  | nil => exact hok.elim
  | cons x ms =>
  obtain ⟨a, cb⟩ := x
  obtain ⟨⟨hb1, hb2⟩, hok⟩ := hok
  have hvl := netV_len hok
  have hlr : (msg :: rest).length = rest.length + 1 := rfl
  (refine spec_enterL [10, 11, 20, 21, 22, 23, 30, 31, 32, 33, 40, 41, 50, 51] Tryz.func125 ic125_ok fr125_ok Tryz.ntmps125 rfl ?_; simp only [seval, go_sem, ic125, fr125, zipL])
  refine vsI.atR 11 rfl fun hN => ?_
  have hN := hN (by omega)
  refine vsI.atR 40 rfl fun hA => ?_
  have hA := hA (by simp)
  (refine vsI.frzR 40 rfl rfl (fun A4 c4 z4 hv4 hc4 hz4 hr4 => ?_)); (first | subst hv4 | (injection hv4 with hv_1 hv_2 hv_3; subst hv_1; subst hv_3)); refine gO ?_
  simp only [netV] at hr4
  ((first | refine ⟨⟨by omega, hN⟩, ?_⟩ | refine ⟨hN, ?_⟩); (try simp only [seval, go_sem]))
  (refine ldF.one _ (RdS.cell 11 rfl rfl) ?_; refine gO ?_)
  refine ⟨⟨by simp, hA⟩, ?_⟩
  refine ldF.agg (sz := 2) [.bool msg.bent, .slice a msg.bytes.length cb] rfl (by exact .inl (hr4.sub 0 [.bool msg.bent, .slice a msg.bytes.length cb] (fun i u hu => by rw [Nat.zero_add]; match i, hu with | 0, hu => exact hu | 1, hu => exact hu))) ?_
  simp only [seval, go_sem]
  refine gO ?_
  dsimp only at hz4
  have hd : RdAt z4 (cutA A0 C0 1 2) 0 (netV rest ms) := hr4.cut (l := 1) (sz := 2) (c := C0) (by simp [hvl]; omega)
  have hR4 : WldR z4 e0 e1 (msg :: rest) n1 ⟨E, EC, N, NC, m0, m1, ⟨A0, C0, (a, cb) :: ms⟩, ⟨A1, C1, ms1⟩⟩ := ⟨hR.e0.mono hz4, hR.e1.mono hz4, hR.n0, hR.n1⟩
  (with_reducible refine joinV.id ?_; simp only [seval, go_sem])
  ((first | refine ⟨⟨by omega, hN⟩, ?_⟩ | refine ⟨hN, ?_⟩); (try simp only [seval, go_sem]))
  refine And.intro ?_ ?_
  all_goals (try simp only [seval, go_sem])
  all_goals (refine ldF.one _ (RdS.cell 11 rfl rfl) ?_; refine gO ?_)
  all_goals refine ⟨by omega, ?_⟩; refine gO ?_
  all_goals by_cases hre : rest = []
  · subst hre
    have hms : ms = [] := by
      cases ms with
      | nil => rfl
      | cons x y => exact hok.elim
    subst hms
    simp only [seval, go_sem]
    refine aT ?_; (refine appM_zero atyMs (by first | exact .inl ⟨_, _, _, Nat.le_refl _, rfl⟩ | exact .inr ⟨_, _, rfl⟩) rfl ?_); refine gO ?_
    ((first | refine ⟨⟨by omega, hN⟩, ?_⟩ | refine ⟨hN, ?_⟩); (try simp only [seval, go_sem]))
    refine stoV.toRow 45 4 (m := 0) (sz := 2) rfl rfl rfl (by omega) (fun b => ?_)
    simp only [seval, go_sem, rowSt, subV, subC, subE, subL]
    (refine stoV_row 11 rfl rfl rfl rfl rfl rfl rfl (by simp) ?_; simp only [seval, go_sem, putV]; refine gO ?_)
    refine FinV.tf (Tf.split 41 46 rfl rfl rfl) ?_
    dsimp only
    refine bysA_frz 46 hb1 hb2 rfl (fun z5 hz5 hby => ?_) (fun h0 => ?_)
    · dsimp only at hz5
      simp only [seval, go_sem]
      (refine FinV.pk 999 [10, 11, 20, 21, 22, 23, 30, 31, 32, 33, 45, 41, 50, 51] ?_); dsimp only
      refine fP ?_
      exact ⟨⟨E, EC, N, NC, m0, m1, ⟨some ⟨b, 0, none⟩, 0, []⟩, ⟨A1, C1, ms1⟩⟩, a, cb, rfl, rfl, ⟨hR4.e0.mono hz5, hR4.e1.mono hz5, ⟨trivial, Nat.le_refl _⟩, hR4.n1⟩, hby⟩
    · dsimp only
      (refine FinV.pk 999 [10, 11, 20, 21, 22, 23, 30, 31, 32, 33, 45, 41, 50, 51] ?_); dsimp only
      refine fP ?_
      exact ⟨⟨E, EC, N, NC, m0, m1, ⟨some ⟨b, 0, none⟩, 0, []⟩, ⟨A1, C1, ms1⟩⟩, a, cb, rfl, rfl, ⟨hR4.e0, hR4.e1, ⟨trivial, Nat.le_refl _⟩, hR4.n1⟩, by rw [h0]; exact Sl.nil _ _ _⟩
  · have hpos : 0 < rest.length := List.length_pos_iff.2 hre
    try simp only [Nat.add_sub_cancel]
    refine aT ?_; (refine appM_emptyO 45 atyMs rfl (by first | exact .inl ⟨_, rfl⟩ | exact .inr ⟨_, _, rfl⟩) rfl (hd) (by first | omega | (simp <;> omega)) (fun u hu => netV_one hu) (by omega) (by omega) (fun A5 c5 hc5 => ?_)); refine gO ?_
    ((first | refine ⟨⟨by omega, hN⟩, ?_⟩ | refine ⟨hN, ?_⟩); (try simp only [seval, go_sem]))
    (refine stoV_row 11 rfl rfl rfl rfl rfl rfl rfl (by simp) ?_; simp only [seval, go_sem, putV]; refine gO ?_)
    refine FinV.tf (Tf.split 41 46 rfl rfl rfl) ?_
    dsimp only
    refine bysA_frz 46 hb1 hb2 rfl (fun z5 hz5 hby => ?_) (fun h0 => ?_)
    · dsimp only at hz5
      simp only [seval, go_sem]
      (refine FinV.pk 999 [10, 11, 20, 21, 22, 23, 30, 31, 32, 33, 45, 41, 50, 51] ?_); dsimp only
      refine fP ?_
      exact ⟨⟨E, EC, N, NC, m0, m1, ⟨A5, c5, ms⟩, ⟨A1, C1, ms1⟩⟩, a, cb, rfl, rfl, ⟨hR4.e0.mono hz5, hR4.e1.mono hz5, ⟨hok, hc5⟩, hR4.n1⟩, hby⟩
    · dsimp only
      (refine FinV.pk 999 [10, 11, 20, 21, 22, 23, 30, 31, 32, 33, 45, 41, 50, 51] ?_); dsimp only
      refine fP ?_
      exact ⟨⟨E, EC, N, NC, m0, m1, ⟨A5, c5, ms⟩, ⟨A1, C1, ms1⟩⟩, a, cb, rfl, rfl, ⟨hR4.e0, hR4.e1, ⟨hok, hc5⟩, hR4.n1⟩, by rw [h0]; exact Sl.nil _ _ _⟩
  · subst hre
    have hms : ms = [] := by
      cases ms with
      | nil => rfl
      | cons x y => exact hok.elim
    subst hms
    simp only [seval, go_sem]
    refine aT ?_; (refine appM_zero atyMs (by first | exact .inl ⟨_, _, _, Nat.le_refl _, rfl⟩ | exact .inr ⟨_, _, rfl⟩) rfl ?_); refine gO ?_
    ((first | refine ⟨⟨by omega, hN⟩, ?_⟩ | refine ⟨hN, ?_⟩); (try simp only [seval, go_sem]))
    refine stoV.toRow 45 4 (m := 0) (sz := 2) rfl rfl rfl (by omega) (fun b => ?_)
    simp only [seval, go_sem, rowSt, subV, subC, subE, subL]
    (refine stoV_row 11 rfl rfl rfl rfl rfl rfl rfl (by simp) ?_; simp only [seval, go_sem, putV]; refine gO ?_)
    refine FinV.tf (Tf.split 41 46 rfl rfl rfl) ?_
    dsimp only
    refine bysA_frz 46 hb1 hb2 rfl (fun z5 hz5 hby => ?_) (fun h0 => ?_)
    · dsimp only at hz5
      simp only [seval, go_sem]
      (refine FinV.pk 999 [10, 11, 20, 21, 22, 23, 30, 31, 32, 33, 45, 41, 50, 51] ?_); dsimp only
      refine fP ?_
      exact ⟨⟨E, EC, N, NC, m0, m1, ⟨some ⟨b, 0, none⟩, 0, []⟩, ⟨A1, C1, ms1⟩⟩, a, cb, rfl, rfl, ⟨hR4.e0.mono hz5, hR4.e1.mono hz5, ⟨trivial, Nat.le_refl _⟩, hR4.n1⟩, hby⟩
    · dsimp only
      (refine FinV.pk 999 [10, 11, 20, 21, 22, 23, 30, 31, 32, 33, 45, 41, 50, 51] ?_); dsimp only
      refine fP ?_
      exact ⟨⟨E, EC, N, NC, m0, m1, ⟨some ⟨b, 0, none⟩, 0, []⟩, ⟨A1, C1, ms1⟩⟩, a, cb, rfl, rfl, ⟨hR4.e0, hR4.e1, ⟨trivial, Nat.le_refl _⟩, hR4.n1⟩, by rw [h0]; exact Sl.nil _ _ _⟩
  · have hpos : 0 < rest.length := List.length_pos_iff.2 hre
    try simp only [Nat.add_sub_cancel]
    refine aT ?_; (refine appM_emptyO 45 atyMs rfl (by first | exact .inl ⟨_, rfl⟩ | exact .inr ⟨_, _, rfl⟩) rfl (hd) (by first | omega | (simp <;> omega)) (fun u hu => netV_one hu) (by omega) (by omega) (fun A5 c5 hc5 => ?_)); refine gO ?_
    ((first | refine ⟨⟨by omega, hN⟩, ?_⟩ | refine ⟨hN, ?_⟩); (try simp only [seval, go_sem]))
    (refine stoV_row 11 rfl rfl rfl rfl rfl rfl rfl (by simp) ?_; simp only [seval, go_sem, putV]; refine gO ?_)
    refine FinV.tf (Tf.split 41 46 rfl rfl rfl) ?_
    dsimp only
    refine bysA_frz 46 hb1 hb2 rfl (fun z5 hz5 hby => ?_) (fun h0 => ?_)
    · dsimp only at hz5
      simp only [seval, go_sem]
      (refine FinV.pk 999 [10, 11, 20, 21, 22, 23, 30, 31, 32, 33, 45, 41, 50, 51] ?_); dsimp only
      refine fP ?_
      exact ⟨⟨E, EC, N, NC, m0, m1, ⟨A5, c5, ms⟩, ⟨A1, C1, ms1⟩⟩, a, cb, rfl, rfl, ⟨hR4.e0.mono hz5, hR4.e1.mono hz5, ⟨hok, hc5⟩, hR4.n1⟩, hby⟩
    · dsimp only
      (refine FinV.pk 999 [10, 11, 20, 21, 22, 23, 30, 31, 32, 33, 45, 41, 50, 51] ?_); dsimp only
      refine fP ?_
      exact ⟨⟨E, EC, N, NC, m0, m1, ⟨A5, c5, ms⟩, ⟨A1, C1, ms1⟩⟩, a, cb, rfl, rfl, ⟨hR4.e0, hR4.e1, ⟨hok, hc5⟩, hR4.n1⟩, by rw [h0]; exact Sl.nil _ _ _⟩
theorem l9first1 (c : Cfg) (link : Int) (e0 e1 : End) (n0 n1 : List Msg) (msg : Msg) (rest : List Msg) (m : WM) (z : Zc) (hR : WldR z e0 e1 n0 n1 m) (hn : n1 = msg :: rest) (h30 : n1.length ≤ 1000) :
    Spec Tryz.prog 125 [wldV c link m, .int .i64 1] z (wldA e0 e1 n0 n1 m) fun u z' A' => ∃ m' A k, u = .tuple #[wldV c link m', .agg #[.bool msg.bent, .slice A msg.bytes.length k]] ∧ A' = wldA e0 e1 (if 1 = 0 then rest else n0) (if 1 = 0 then n1 else rest) m' ∧ WldR z' e0 e1 (if 1 = 0 then rest else n0) (if 1 = 0 then n1 else rest) m' ∧ By z' msg.bytes (.slice A msg.bytes.length k) := by
  subst hn
  obtain ⟨E, EC, N, NC, m0, m1, ⟨A0, C0, ms0⟩, ⟨A1, C1, ms1⟩⟩ := m
  have hok := hR.n1.ok
  have hcap := hR.n1.cap
  dsimp only at hok hcap
  cases ms1 with
  | nil => exact hok.elim
  | cons x ms =>
  obtain ⟨a, cb⟩ := x
  obtain ⟨⟨hb1, hb2⟩, hok⟩ := hok
  have hvl := netV_len hok
  have hlr : (msg :: rest).length = rest.length + 1 := rfl
  (refine spec_enterL [10, 11, 20, 21, 22, 23, 30, 31, 32, 33, 40, 41, 50, 51] Tryz.func125 ic125_ok fr125_ok Tryz.ntmps125 rfl ?_; simp only [seval, go_sem, ic125, fr125, zipL])
  refine vsI.atR 11 rfl fun hN => ?_
  have hN := hN (by omega)
  refine vsI.atR 50 rfl fun hA => ?_
  have hA := hA (by simp)
  (refine vsI.frzR 50 rfl rfl (fun A4 c4 z4 hv4 hc4 hz4 hr4 => ?_)); (first | subst hv4 | (injection hv4 with hv_1 hv_2 hv_3; subst hv_1; subst hv_3)); refine gO ?_
  simp only [netV] at hr4
  ((first | refine ⟨⟨by omega, hN⟩, ?_⟩ | refine ⟨hN, ?_⟩); (try simp only [seval, go_sem]))
  (refine ldF.one _ (RdS.cell 11 rfl rfl) ?_; refine gO ?_)
  refine ⟨⟨by simp, hA⟩, ?_⟩
  refine ldF.agg (sz := 2) [.bool msg.bent, .slice a msg.bytes.length cb] rfl (by exact .inl (hr4.sub 0 [.bool msg.bent, .slice a msg.bytes.length cb] (fun i u hu => by rw [Nat.zero_add]; match i, hu with | 0, hu => exact hu | 1, hu => exact hu))) ?_
  simp only [seval, go_sem]
  refine gO ?_
  dsimp only at hz4
  have hd : RdAt z4 (cutA A1 C1 1 2) 0 (netV rest ms) := hr4.cut (l := 1) (sz := 2) (c := C1) (by simp [hvl]; omega)
  have hR4 : WldR z4 e0 e1 n0 (msg :: rest) ⟨E, EC, N, NC, m0, m1, ⟨A0, C0, ms0⟩, ⟨A1, C1, (a, cb) :: ms⟩⟩ := ⟨hR.e0.mono hz4, hR.e1.mono hz4, hR.n0, hR.n1⟩
  (with_reducible refine joinV.id ?_; simp only [seval, go_sem])
  ((first | refine ⟨⟨by omega, hN⟩, ?_⟩ | refine ⟨hN, ?_⟩); (try simp only [seval, go_sem]))
  refine And.intro ?_ ?_
  all_goals (try simp only [seval, go_sem])
  all_goals (refine ldF.one _ (RdS.cell 11 rfl rfl) ?_; refine gO ?_)
  all_goals refine ⟨by omega, ?_⟩; refine gO ?_
  all_goals by_cases hre : rest = []
  · subst hre
    have hms : ms = [] := by
      cases ms with
      | nil => rfl
      | cons x y => exact hok.elim
    subst hms
    simp only [seval, go_sem]
    refine aT ?_; (refine appM_zero atyMs (by first | exact .inl ⟨_, _, _, Nat.le_refl _, rfl⟩ | exact .inr ⟨_, _, rfl⟩) rfl ?_); refine gO ?_
    ((first | refine ⟨⟨by omega, hN⟩, ?_⟩ | refine ⟨hN, ?_⟩); (try simp only [seval, go_sem]))
    refine stoV.toRow 45 4 (m := 0) (sz := 2) rfl rfl rfl (by omega) (fun b => ?_)
    simp only [seval, go_sem, rowSt, subV, subC, subE, subL]
    (refine stoV_row 11 rfl rfl rfl rfl rfl rfl rfl (by simp) ?_; simp only [seval, go_sem, putV]; refine gO ?_)
    refine FinV.tf (Tf.split 51 46 rfl rfl rfl) ?_
    dsimp only
    refine bysA_frz 46 hb1 hb2 rfl (fun z5 hz5 hby => ?_) (fun h0 => ?_)
    · dsimp only at hz5
      simp only [seval, go_sem]
      (refine FinV.pk 999 [10, 11, 20, 21, 22, 23, 30, 31, 32, 33, 40, 41, 45, 51] ?_); dsimp only
      refine fP ?_
      exact ⟨⟨E, EC, N, NC, m0, m1, ⟨A0, C0, ms0⟩, ⟨some ⟨b, 0, none⟩, 0, []⟩⟩, a, cb, rfl, rfl, ⟨hR4.e0.mono hz5, hR4.e1.mono hz5, hR4.n0, ⟨trivial, Nat.le_refl _⟩⟩, hby⟩
    · dsimp only
      (refine FinV.pk 999 [10, 11, 20, 21, 22, 23, 30, 31, 32, 33, 40, 41, 45, 51] ?_); dsimp only
      refine fP ?_
      exact ⟨⟨E, EC, N, NC, m0, m1, ⟨A0, C0, ms0⟩, ⟨some ⟨b, 0, none⟩, 0, []⟩⟩, a, cb, rfl, rfl, ⟨hR4.e0, hR4.e1, hR4.n0, ⟨trivial, Nat.le_refl _⟩⟩, by rw [h0]; exact Sl.nil _ _ _⟩
  · have hpos : 0 < rest.length := List.length_pos_iff.2 hre
    try simp only [Nat.add_sub_cancel]
    refine aT ?_; (refine appM_emptyO 45 atyMs rfl (by first | exact .inl ⟨_, rfl⟩ | exact .inr ⟨_, _, rfl⟩) rfl (hd) (by first | omega | (simp <;> omega)) (fun u hu => netV_one hu) (by omega) (by omega) (fun A5 c5 hc5 => ?_)); refine gO ?_
    ((first | refine ⟨⟨by omega, hN⟩, ?_⟩ | refine ⟨hN, ?_⟩); (try simp only [seval, go_sem]))
    (refine stoV_row 11 rfl rfl rfl rfl rfl rfl rfl (by simp) ?_; simp only [seval, go_sem, putV]; refine gO ?_)
    refine FinV.tf (Tf.split 51 46 rfl rfl rfl) ?_
    dsimp only
    refine bysA_frz 46 hb1 hb2 rfl (fun z5 hz5 hby => ?_) (fun h0 => ?_)
    · dsimp only at hz5
      simp only [seval, go_sem]
      (refine FinV.pk 999 [10, 11, 20, 21, 22, 23, 30, 31, 32, 33, 40, 41, 45, 51] ?_); dsimp only
      refine fP ?_
      exact ⟨⟨E, EC, N, NC, m0, m1, ⟨A0, C0, ms0⟩, ⟨A5, c5, ms⟩⟩, a, cb, rfl, rfl, ⟨hR4.e0.mono hz5, hR4.e1.mono hz5, hR4.n0, ⟨hok, hc5⟩⟩, hby⟩
    · dsimp only
      (refine FinV.pk 999 [10, 11, 20, 21, 22, 23, 30, 31, 32, 33, 40, 41, 45, 51] ?_); dsimp only
      refine fP ?_
      exact ⟨⟨E, EC, N, NC, m0, m1, ⟨A0, C0, ms0⟩, ⟨A5, c5, ms⟩⟩, a, cb, rfl, rfl, ⟨hR4.e0, hR4.e1, hR4.n0, ⟨hok, hc5⟩⟩, by rw [h0]; exact Sl.nil _ _ _⟩
  · subst hre
    have hms : ms = [] := by
      cases ms with
      | nil => rfl
      | cons x y => exact hok.elim
    subst hms
    simp only [seval, go_sem]
    refine aT ?_; (refine appM_zero atyMs (by first | exact .inl ⟨_, _, _, Nat.le_refl _, rfl⟩ | exact .inr ⟨_, _, rfl⟩) rfl ?_); refine gO ?_
    ((first | refine ⟨⟨by omega, hN⟩, ?_⟩ | refine ⟨hN, ?_⟩); (try simp only [seval, go_sem]))
    refine stoV.toRow 45 4 (m := 0) (sz := 2) rfl rfl rfl (by omega) (fun b => ?_)
    simp only [seval, go_sem, rowSt, subV, subC, subE, subL]
    (refine stoV_row 11 rfl rfl rfl rfl rfl rfl rfl (by simp) ?_; simp only [seval, go_sem, putV]; refine gO ?_)
    refine FinV.tf (Tf.split 51 46 rfl rfl rfl) ?_
    dsimp only
    refine bysA_frz 46 hb1 hb2 rfl (fun z5 hz5 hby => ?_) (fun h0 => ?_)
    · dsimp only at hz5
      simp only [seval, go_sem]
      (refine FinV.pk 999 [10, 11, 20, 21, 22, 23, 30, 31, 32, 33, 40, 41, 45, 51] ?_); dsimp only
      refine fP ?_
      exact ⟨⟨E, EC, N, NC, m0, m1, ⟨A0, C0, ms0⟩, ⟨some ⟨b, 0, none⟩, 0, []⟩⟩, a, cb, rfl, rfl, ⟨hR4.e0.mono hz5, hR4.e1.mono hz5, hR4.n0, ⟨trivial, Nat.le_refl _⟩⟩, hby⟩
    · dsimp only
      (refine FinV.pk 999 [10, 11, 20, 21, 22, 23, 30, 31, 32, 33, 40, 41, 45, 51] ?_); dsimp only
      refine fP ?_
      exact ⟨⟨E, EC, N, NC, m0, m1, ⟨A0, C0, ms0⟩, ⟨some ⟨b, 0, none⟩, 0, []⟩⟩, a, cb, rfl, rfl, ⟨hR4.e0, hR4.e1, hR4.n0, ⟨trivial, Nat.le_refl _⟩⟩, by rw [h0]; exact Sl.nil _ _ _⟩
  · have hpos : 0 < rest.length := List.length_pos_iff.2 hre
    try simp only [Nat.add_sub_cancel]
    refine aT ?_; (refine appM_emptyO 45 atyMs rfl (by first | exact .inl ⟨_, rfl⟩ | exact .inr ⟨_, _, rfl⟩) rfl (hd) (by first | omega | (simp <;> omega)) (fun u hu => netV_one hu) (by omega) (by omega) (fun A5 c5 hc5 => ?_)); refine gO ?_
    ((first | refine ⟨⟨by omega, hN⟩, ?_⟩ | refine ⟨hN, ?_⟩); (try simp only [seval, go_sem]))
    (refine stoV_row 11 rfl rfl rfl rfl rfl rfl rfl (by simp) ?_; simp only [seval, go_sem, putV]; refine gO ?_)
    refine FinV.tf (Tf.split 51 46 rfl rfl rfl) ?_
    dsimp only
    refine bysA_frz 46 hb1 hb2 rfl (fun z5 hz5 hby => ?_) (fun h0 => ?_)
    · dsimp only at hz5
      simp only [seval, go_sem]
      (refine FinV.pk 999 [10, 11, 20, 21, 22, 23, 30, 31, 32, 33, 40, 41, 45, 51] ?_); dsimp only
      refine fP ?_
      exact ⟨⟨E, EC, N, NC, m0, m1, ⟨A0, C0, ms0⟩, ⟨A5, c5, ms⟩⟩, a, cb, rfl, rfl, ⟨hR4.e0.mono hz5, hR4.e1.mono hz5, hR4.n0, ⟨hok, hc5⟩⟩, hby⟩
    · dsimp only
      (refine FinV.pk 999 [10, 11, 20, 21, 22, 23, 30, 31, 32, 33, 40, 41, 45, 51] ?_); dsimp only
      refine fP ?_
      exact ⟨⟨E, EC, N, NC, m0, m1, ⟨A0, C0, ms0⟩, ⟨A5, c5, ms⟩⟩, a, cb, rfl, rfl, ⟨hR4.e0, hR4.e1, hR4.n0, ⟨hok, hc5⟩⟩, by rw [h0]; exact Sl.nil _ _ _⟩
structure TelS where
  i : Nat
  g : List (List Int)
  A : Option Addr
  C : Nat
  V : List Value
  z : Zc
theorem tell_take {got l : List (List Int)} {i : Nat} {x : List Int} (h : l[i]? = some x) : tell got (l.take (i + 1)) = if (tell got (l.take i)).length < 60 then tell got (l.take i) ++ [x] else tell got (l.take i) := by
  unfold tell
  rw [List.take_add_one, h, List.foldl_append]
  rfl
theorem l9tell0 (c : Cfg) (link : Int) (e0 e1 : End) (n0 n1 : List Msg) (m : WM) (l : List (List Int)) (v : Value) (z : Zc) (hR : WldR z e0 e1 n0 n1 m) (hv : Sl sduRep z l v) (hl : l.length ≤ 1000) (h60 : e0.got.length ≤ 60) :
    Spec Tryz.prog 158 [wldV c link m, .int .i64 0, v] z (wldA e0 e1 n0 n1 m) (WldH c ⟨c, [e0, e1].set 0 { e0 with got := tell e0.got l }, [n0, n1], link⟩) := by
  obtain ⟨A, kk, cs, rfl, hk, he, hr⟩ := hv
  (refine spec_enterL [10, 11, 20, 21, 22, 23, 30, 31, 32, 33, 40, 41, 50, 51] Tryz.func158 ic158_ok fr158_ok Tryz.ntmps158 rfl ?_; simp only [seval, go_sem, ic158, fr158, zipL])
  refine vsI.atR 10 rfl fun hE => ?_
  have hE := hE (by omega)
  refine gO ?_
  refine loop_upd (ι := TelS) (n := 2) (fun s => z ≤ s.z ∧ s.i ≤ l.length ∧ s.g = tell e0.got (l.take s.i) ∧ Els sduRep s.z s.g s.V ∧ s.g.length ≤ s.C ∧ s.g.length ≤ 60) (fun s => [(7, .c (.v (.int .i64 s.i)))]) (fun s => [(10, .own (rowA tyE 28 (.slice m.E 2 m.EC) 2 (endsC { e0 with got := s.g } e1 { m.m0 with gA := s.A, gC := s.C } m.m1))), (11, .own (rowA tyN 1 (.slice m.N 2 m.NC) 2 [.slice m.n0.A n0.length m.n0.C, .slice m.n1.A n1.length m.n1.C])),
    (20, .own (rowA tyP 3 (.slice m.m0.fA e0.tx.flight.length m.m0.fC) e0.tx.flight.length m.m0.fV)), (21, .own (rowA tyP 3 (.slice m.m0.qA e0.tx.queue.length m.m0.qC) e0.tx.queue.length m.m0.qV)), (22, .own (rowA tyS 1 (.slice m.m0.pA e0.put.length m.m0.pC) e0.put.length m.m0.pV)),
    (30, .own (rowA tyP 3 (.slice m.m1.fA e1.tx.flight.length m.m1.fC) e1.tx.flight.length m.m1.fV)), (31, .own (rowA tyP 3 (.slice m.m1.qA e1.tx.queue.length m.m1.qC) e1.tx.queue.length m.m1.qV)), (32, .own (rowA tyS 1 (.slice m.m1.pA e1.put.length m.m1.pC) e1.put.length m.m1.pV)), (23, .own (rowA tyS 1 (.slice s.A s.g.length s.C) s.g.length s.V)), (33, .own (rowA tyS 1 (.slice m.m1.gA e1.got.length m.m1.gC) e1.got.length m.m1.gV)),
    (40, .own (rowA tyM 2 (.slice m.n0.A n0.length m.n0.C) n0.length (netV n0 m.n0.ms))), (41, .own (starL (netB n0 m.n0.ms))), (50, .own (rowA tyM 2 (.slice m.n1.A n1.length m.n1.C) n1.length (netV n1 m.n1.ms))), (51, .own (starL (netB n1 m.n1.ms))),
    (0, .cells 31 [.v (.int .i64 c.mode), .v (.int .i64 c.win), .v (.int .i64 c.mps), .v (.int .i64 c.mtu), .v (.int .i64 c.tri), .v (.slice m.E 2 m.EC), .v (.slice m.N 2 m.NC), .v (.int .i64 link)]), (1, .cells 31 [.v (.int .i64 0), .v (.int .i64 0), .v (.int .i64 0), .v (.int .i64 0), .v (.int .i64 0), .v (.slice none 0 0), .v (.slice none 0 0), .v (.int .i64 0)])]) (fun s => s.z) (fun s => l.length - s.i) ⟨0, e0.got, m.m0.gA, m.m0.gC, m.m0.gV, z⟩ ⟨Zc.rfl' _, by simp, by simp [tell], hR.e0.go, hR.e0.gc, h60⟩ (by (simp only [wrI, wrR, anyL, st, List.append_nil, List.nil_append, List.cons_append]); exact rfl) ?_ ?_
  · exact lX
  · rintro ⟨i, g, gA, gC, gV, z1⟩ ⟨hz1, hi, hgl, hge, hgc, hg60⟩
    dsimp only at *
    refine gO ?_
    (with_reducible refine condI.split (fun hg => ?_) (fun hg => ?_) <;> (try simp only [hg]) <;> (try simp only [seval, go_sem]))
    · have hi' : i < l.length := by simp at hg; omega
      obtain ⟨x, hx⟩ : ∃ x, l[i]? = some x := ⟨_, List.getElem?_eq_getElem hi'⟩
      obtain ⟨c1, ⟨v, rfl, hb⟩, hr1⟩ := (he.mono hz1).at (hr.mono hz1) hx
      obtain ⟨A1, c1, rfl, hc1, hB1, hrb⟩ := By.form hb
      have hat : IsAt A := he.isAt hr (by decide) hi'
      refine gO ?_
      ((first | refine ⟨⟨by omega, hE⟩, ?_⟩ | refine ⟨hE, ?_⟩); (try simp only [seval, go_sem]))
      (refine ldF.one _ (RdS.cell 10 rfl rfl) ?_; refine gO ?_)
      (with_reducible refine condI.split (fun hg => ?_) (fun hg => ?_) <;> (try simp only [hg]) <;> (try simp only [seval, go_sem]))
      · refine gO ?_
        (with_reducible refine joinV.id ?_; simp only [seval, go_sem])
        ((first | refine ⟨⟨by omega, hE⟩, ?_⟩ | refine ⟨hE, ?_⟩); (try simp only [seval, go_sem]))
        (refine ⟨⟨by omega, by omega, hat⟩, ?_⟩; (try simp only [seval, go_sem]))
        (refine ldF.one _ (by first | exact .inl hr1 | exact hr1) ?_; (try simp only [seval, go_sem]))
        refine And.intro ?_ ?_
        all_goals (try simp only [seval, go_sem])
        all_goals (refine ldF.one _ (RdS.cell 10 rfl rfl) ?_; refine gO ?_)
        all_goals refine aT ?_; (refine appM_newF 23 atyS rfl rfl rfl rfl rfl rfl rfl (by simp [Value.oneCell']) (by omega) (fun A6 c6 hc6 hat6 => ?_)); refine gO ?_
        all_goals ((first | refine ⟨⟨by omega, hE⟩, ?_⟩ | refine ⟨hE, ?_⟩); (try simp only [seval, go_sem]))
        all_goals (refine stoV_row 10 rfl rfl rfl rfl rfl rfl rfl (by rw [endsC_len]; simp) ?_; refine gO ?_)
        all_goals rw [ends_got0 _ _ _ _ (g ++ [x]) _ _ _ (by simp), show g.length + 1 = (g ++ [x]).length by simp]
        all_goals refine ⟨⟨i + 1, g ++ [x], A6, c6, gV ++ [.slice A1 x.length c1], z1⟩, ⟨hz1, by dsimp only; omega, ?_, hge.append (Els.single (d := sduRep) ⟨_, rfl, By.mk hc1 hB1 hrb⟩), by simp; exact hc6, by have := of_decide_eq_true hg; simp; omega⟩, by dsimp only; omega, ?_⟩
        all_goals first
          | (dsimp only; rw [tell_take hx, ← hgl, if_pos (by have := of_decide_eq_true hg; omega)])
          | exact lX
      · refine gO ?_
        refine ⟨⟨i + 1, g, gA, gC, gV, z1⟩, ⟨hz1, by dsimp only; omega, by dsimp only; rw [tell_take hx, ← hgl, if_neg (by have := of_decide_eq_false hg; omega)], hge, hgc, hg60⟩, by dsimp only; omega, ?_⟩
        exact lX
    · refine gO ?_
      refine wS ?_
      have hil : i = l.length := by simp at hg; omega
      subst hil
      rw [List.take_length] at hgl
      subst hgl
      exact ⟨_, e1, n0, n1, { m with m0 := { m.m0 with gA := gA, gC := gC, gV := gV } }, rfl, rfl, rfl, rfl, rfl, ⟨{ (hR.e0.mono hz1) with go := hge, gc := hgc }, hR.e1.mono hz1, hR.n0, hR.n1⟩⟩
theorem l9tell1 (c : Cfg) (link : Int) (e0 e1 : End) (n0 n1 : List Msg) (m : WM) (l : List (List Int)) (v : Value) (z : Zc) (hR : WldR z e0 e1 n0 n1 m) (hv : Sl sduRep z l v) (hl : l.length ≤ 1000) (h60 : e1.got.length ≤ 60) :
    Spec Tryz.prog 158 [wldV c link m, .int .i64 1, v] z (wldA e0 e1 n0 n1 m) (WldH c ⟨c, [e0, e1].set 1 { e1 with got := tell e1.got l }, [n0, n1], link⟩) := by
  obtain ⟨A, kk, cs, rfl, hk, he, hr⟩ := hv
  (refine spec_enterL [10, 11, 20, 21, 22, 23, 30, 31, 32, 33, 40, 41, 50, 51] Tryz.func158 ic158_ok fr158_ok Tryz.ntmps158 rfl ?_; simp only [seval, go_sem, ic158, fr158, zipL])
  refine vsI.atR 10 rfl fun hE => ?_
  have hE := hE (by omega)
  refine gO ?_
  refine loop_upd (ι := TelS) (n := 2) (fun s => z ≤ s.z ∧ s.i ≤ l.length ∧ s.g = tell e1.got (l.take s.i) ∧ Els sduRep s.z s.g s.V ∧ s.g.length ≤ s.C ∧ s.g.length ≤ 60) (fun s => [(7, .c (.v (.int .i64 s.i)))]) (fun s => [(10, .own (rowA tyE 28 (.slice m.E 2 m.EC) 2 (endsC e0 { e1 with got := s.g } m.m0 { m.m1 with gA := s.A, gC := s.C }))), (11, .own (rowA tyN 1 (.slice m.N 2 m.NC) 2 [.slice m.n0.A n0.length m.n0.C, .slice m.n1.A n1.length m.n1.C])),
    (20, .own (rowA tyP 3 (.slice m.m0.fA e0.tx.flight.length m.m0.fC) e0.tx.flight.length m.m0.fV)), (21, .own (rowA tyP 3 (.slice m.m0.qA e0.tx.queue.length m.m0.qC) e0.tx.queue.length m.m0.qV)), (22, .own (rowA tyS 1 (.slice m.m0.pA e0.put.length m.m0.pC) e0.put.length m.m0.pV)),
    (30, .own (rowA tyP 3 (.slice m.m1.fA e1.tx.flight.length m.m1.fC) e1.tx.flight.length m.m1.fV)), (31, .own (rowA tyP 3 (.slice m.m1.qA e1.tx.queue.length m.m1.qC) e1.tx.queue.length m.m1.qV)), (32, .own (rowA tyS 1 (.slice m.m1.pA e1.put.length m.m1.pC) e1.put.length m.m1.pV)), (33, .own (rowA tyS 1 (.slice s.A s.g.length s.C) s.g.length s.V)), (23, .own (rowA tyS 1 (.slice m.m0.gA e0.got.length m.m0.gC) e0.got.length m.m0.gV)),
    (40, .own (rowA tyM 2 (.slice m.n0.A n0.length m.n0.C) n0.length (netV n0 m.n0.ms))), (41, .own (starL (netB n0 m.n0.ms))), (50, .own (rowA tyM 2 (.slice m.n1.A n1.length m.n1.C) n1.length (netV n1 m.n1.ms))), (51, .own (starL (netB n1 m.n1.ms))),
    (0, .cells 31 [.v (.int .i64 c.mode), .v (.int .i64 c.win), .v (.int .i64 c.mps), .v (.int .i64 c.mtu), .v (.int .i64 c.tri), .v (.slice m.E 2 m.EC), .v (.slice m.N 2 m.NC), .v (.int .i64 link)]), (1, .cells 31 [.v (.int .i64 0), .v (.int .i64 0), .v (.int .i64 0), .v (.int .i64 0), .v (.int .i64 0), .v (.slice none 0 0), .v (.slice none 0 0), .v (.int .i64 0)])]) (fun s => s.z) (fun s => l.length - s.i) ⟨0, e1.got, m.m1.gA, m.m1.gC, m.m1.gV, z⟩ ⟨Zc.rfl' _, by simp, by simp [tell], hR.e1.go, hR.e1.gc, h60⟩ (by (simp only [wrI, wrR, anyL, st, List.append_nil, List.nil_append, List.cons_append]); exact rfl) ?_ ?_
  · exact lX
  · rintro ⟨i, g, gA, gC, gV, z1⟩ ⟨hz1, hi, hgl, hge, hgc, hg60⟩
    dsimp only at *
    refine gO ?_
    (with_reducible refine condI.split (fun hg => ?_) (fun hg => ?_) <;> (try simp only [hg]) <;> (try simp only [seval, go_sem]))
    · have hi' : i < l.length := by simp at hg; omega
      obtain ⟨x, hx⟩ : ∃ x, l[i]? = some x := ⟨_, List.getElem?_eq_getElem hi'⟩
      obtain ⟨c1, ⟨v, rfl, hb⟩, hr1⟩ := (he.mono hz1).at (hr.mono hz1) hx
      obtain ⟨A1, c1, rfl, hc1, hB1, hrb⟩ := By.form hb
      have hat : IsAt A := he.isAt hr (by decide) hi'
      refine gO ?_
      ((first | refine ⟨⟨by omega, hE⟩, ?_⟩ | refine ⟨hE, ?_⟩); (try simp only [seval, go_sem]))
      (refine ldF.one _ (RdS.cell 10 rfl rfl) ?_; refine gO ?_)
      (with_reducible refine condI.split (fun hg => ?_) (fun hg => ?_) <;> (try simp only [hg]) <;> (try simp only [seval, go_sem]))
      · refine gO ?_
        (with_reducible refine joinV.id ?_; simp only [seval, go_sem])
        ((first | refine ⟨⟨by omega, hE⟩, ?_⟩ | refine ⟨hE, ?_⟩); (try simp only [seval, go_sem]))
        (refine ⟨⟨by omega, by omega, hat⟩, ?_⟩; (try simp only [seval, go_sem]))
        (refine ldF.one _ (by first | exact .inl hr1 | exact hr1) ?_; (try simp only [seval, go_sem]))
        refine And.intro ?_ ?_
        all_goals (try simp only [seval, go_sem])
        all_goals (refine ldF.one _ (RdS.cell 10 rfl rfl) ?_; refine gO ?_)
        all_goals refine aT ?_; (refine appM_newF 33 atyS rfl rfl rfl rfl rfl rfl rfl (by simp [Value.oneCell']) (by omega) (fun A6 c6 hc6 hat6 => ?_)); refine gO ?_
        all_goals ((first | refine ⟨⟨by omega, hE⟩, ?_⟩ | refine ⟨hE, ?_⟩); (try simp only [seval, go_sem]))
        all_goals (refine stoV_row 10 rfl rfl rfl rfl rfl rfl rfl (by rw [endsC_len]; simp) ?_; refine gO ?_)
        all_goals rw [ends_got1 _ _ _ _ (g ++ [x]) _ _ _ (by simp), show g.length + 1 = (g ++ [x]).length by simp]
        all_goals refine ⟨⟨i + 1, g ++ [x], A6, c6, gV ++ [.slice A1 x.length c1], z1⟩, ⟨hz1, by dsimp only; omega, ?_, hge.append (Els.single (d := sduRep) ⟨_, rfl, By.mk hc1 hB1 hrb⟩), by simp; exact hc6, by have := of_decide_eq_true hg; simp; omega⟩, by dsimp only; omega, ?_⟩
        all_goals first
          | (dsimp only; rw [tell_take hx, ← hgl, if_pos (by have := of_decide_eq_true hg; omega)])
          | exact lX
      · refine gO ?_
        refine ⟨⟨i + 1, g, gA, gC, gV, z1⟩, ⟨hz1, by dsimp only; omega, by dsimp only; rw [tell_take hx, ← hgl, if_neg (by have := of_decide_eq_false hg; omega)], hge, hgc, hg60⟩, by dsimp only; omega, ?_⟩
        exact lX
    · refine gO ?_
      refine wS ?_
      have hil : i = l.length := by simp at hg; omega
      subst hil
      rw [List.take_length] at hgl
      subst hgl
      exact ⟨e0, _, n0, n1, { m with m1 := { m.m1 with gA := gA, gC := gC, gV := gV } }, rfl, rfl, rfl, rfl, rfl, ⟨hR.e0.mono hz1, { (hR.e1.mono hz1) with go := hge, gc := hgc }, hR.n0, hR.n1⟩⟩
theorem frmKind {f : Frm} (h : frmOk f = true) : f.kind = 1 ∨ f.kind = 2 ∨ f.kind = 3 ∨ f.kind = 4 := by
  unfold frmOk at h
  split at h
  · omega
  · split at h
    · omega
    · split at h
      · omega
      · split at h
        · omega
        · cases h

theorem l9put_f0 (c : Cfg) (link : Int) (e0 e1 : End) (n0 n1 : List Msg) (m : WM) (v : Value) (z : Zc) (hR : WldR z e0 e1 n0 n1 m) (sdu : List Int) (hv : By z sdu v) (h60 : e0.put.length = 60) :
    Spec Tryz.prog 85 [wldV c link m, .int .i64 0, v] z (wldA e0 e1 n0 n1 m) (WldH c ⟨c, [e0, e1], [n0, n1], link⟩) := by
  obtain ⟨Av, kv, rfl, hkv, hBv, hrv⟩ := hv.form
  (refine spec_enterL [10, 11, 20, 21, 22, 23, 30, 31, 32, 33, 40, 41, 50, 51] Tryz.func85 ic85_ok fr85_ok Tryz.ntmps85 rfl ?_; simp only [seval, go_sem, ic85, fr85, zipL])
  refine vsI.atR 10 rfl fun hE => ?_
  have hE := hE (by omega)
  refine gO ?_
  ((first | refine ⟨⟨by omega, hE⟩, ?_⟩ | refine ⟨hE, ?_⟩); (try simp only [seval, go_sem]))
  (refine ldF.agg (sz := 28) _ rfl (by exact .inr ⟨10, _, _, _, _, _, rfl, fun i u hu => ends_get0 hu⟩) ?_; simp only [seval, go_sem, endC]; refine gO ?_)
  (with_reducible refine condI.split (fun hg => ?_) (fun hg => ?_) <;> (try simp only [hg]) <;> (try simp only [seval, go_sem]))
  · refine gO ?_
    refine wS ?_
    exact ⟨e0, e1, n0, n1, m, rfl, rfl, rfl, rfl, rfl, hR⟩
  · exfalso
    simp [h60] at hg
theorem l9put_f1 (c : Cfg) (link : Int) (e0 e1 : End) (n0 n1 : List Msg) (m : WM) (v : Value) (z : Zc) (hR : WldR z e0 e1 n0 n1 m) (sdu : List Int) (hv : By z sdu v) (h60 : e1.put.length = 60) :
    Spec Tryz.prog 85 [wldV c link m, .int .i64 1, v] z (wldA e0 e1 n0 n1 m) (WldH c ⟨c, [e0, e1], [n0, n1], link⟩) := by
  obtain ⟨Av, kv, rfl, hkv, hBv, hrv⟩ := hv.form
  (refine spec_enterL [10, 11, 20, 21, 22, 23, 30, 31, 32, 33, 40, 41, 50, 51] Tryz.func85 ic85_ok fr85_ok Tryz.ntmps85 rfl ?_; simp only [seval, go_sem, ic85, fr85, zipL])
  refine vsI.atR 10 rfl fun hE => ?_
  have hE := hE (by omega)
  refine gO ?_
  ((first | refine ⟨⟨by omega, hE⟩, ?_⟩ | refine ⟨hE, ?_⟩); (try simp only [seval, go_sem]))
  (refine ldF.agg (sz := 28) _ rfl (by exact .inr ⟨10, _, _, _, _, _, rfl, fun i u hu => ends_get1 hu⟩) ?_; simp only [seval, go_sem, endC]; refine gO ?_)
  (with_reducible refine condI.split (fun hg => ?_) (fun hg => ?_) <;> (try simp only [hg]) <;> (try simp only [seval, go_sem]))
  · refine gO ?_
    refine wS ?_
    exact ⟨e0, e1, n0, n1, m, rfl, rfl, rfl, rfl, rfl, hR⟩
  · exfalso
    simp [h60] at hg
theorem step_lose0 (c : Cfg) (link : Int) (e0 e1 : End) (n0 n1 : List Msg) (ev : Evt) (hk : ev.kind = 8) (hw : ev.who = 0) : step true ⟨c, [e0, e1], [n0, n1], link⟩ ev = ⟨c, [e0, e1], [n0, n1].set 0 (n0.drop 1), link⟩ := by
  obtain ⟨kind, who, at_, v, data⟩ := ev
  dsimp only at *
  subst hk hw
  rfl
theorem step_lose1 (c : Cfg) (link : Int) (e0 e1 : End) (n0 n1 : List Msg) (ev : Evt) (hk : ev.kind = 8) (hw : ev.who = 1) : step true ⟨c, [e0, e1], [n0, n1], link⟩ ev = ⟨c, [e0, e1], [n0, n1].set 1 (n1.drop 1), link⟩ := by
  obtain ⟨kind, who, at_, v, data⟩ := ev
  dsimp only at *
  subst hk hw
  rfl

set_option maxHeartbeats 4000000
def ic25 : IC := (xR (xt (.mv (.const (.pointer none))) 2 .done) (.seq (xR (xtM 0 3 (xtL 3 4 (xt (.bin .gtr (xr 4) (xi 2000)) 5 .done))) (.cond (xr 5) (xQ (xtM 0 6 (xt (.slc (xr 6) none (some (xi 2000)) 1) 7 (xtM 7 0 .done)))) .skip)) (xR (xtM 0 8 (xt (.bld [zS, zI] [(0, (1, (xr 8)))]) 9 (xt (.box 99 (xr 9)) 10 (xtM 10 2 .done)))) .ret)))
theorem ic25_ok : Tryz.f25.body.bind (trC Tryz.prog []) = some ic25 := by kernel_rfl
def fr25 : List FR := [(FR.t 2)]
theorem fr25_ok : fres Tryz.prog Tryz.f25.results.toList = some fr25 := by kernel_rfl
def ic52 : IC := (xR (xt (.mv (xi 0)) 4 .done) (xR (xtM 0 7 (xtM 0 8 (xtN 8 9 (xtF 9 1 10 (xtO 10 11 (xt (.bin .add (xr 11) (xi 1)) 12 (xtN 7 13 (xtF 13 1 14 (xS 14 12 1 .done))))))))) (.seq (xR (xtM 1 15 (xt (.bin .lss (xr 15) (xi 1)) 16 (xtM 16 17 (xG (.mv (xr 0)) 18 17 false (xG (.nil (xr 18)) 19 17 false (xG (.fad (xr 19) 0) 20 17 false (xG (.ld (xr 20) 1 false) 21 17 false (xG (.len (xr 21)) 22 17 false (xG (.bin .eql (xr 22) (xi 0)) 23 17 false (xt (.pick (xr 17) (xb true) (xr 23)) 24 .done)))))))))) (.cond (xr 24) (xR (xt (.mv (xi 0)) 4 .done) .ret) .skip)) (xR (xtM 0 25 (xtN 25 26 (xtF 26 1 27 (xtO 27 28 (xt (.bin .sub (xr 28) (xi 1)) 29 (xtM 29 5 .done)))))) (.seq (xR (xtM 5 30 (xtM 0 31 (xtN 31 32 (xtF 32 0 33 (xtO 33 34 (xtL 34 35 (xt (.bin .lss (xr 30) (xr 35)) 36 .done))))))) (.cond (xr 36) (xR (xtM 0 37 (xtN 37 38 (xtF 38 0 39 (xtO 39 40 (xtM 5 41 (xtI 40 41 1 42 (xtO 42 43 (xt (.cvi .i64 (xr 43)) 44 (xtM 1 45 (xt (.bin .rem (xr 44) (xr 45)) 46 (xtM 46 4 .done))))))))))) .ret) .skip)) (xR (xpM 0 47 (xpN 47 48 (xpF 48 0 49 (xlO 49 50 (xpM 5 51 (xpM 0 52 (xpN 52 53 (xpF 53 0 54 (xlO 54 55 (xp (.len (xr 55)) 56 (xp (.bin .rem (xr 51) (xr 56)) 57 (xpI 50 57 1 58 (xlO 58 59 (xp (.cvi .i64 (xr 59)) 60 (xp (.bin .mul (xr 60) (xi 131)) 61 (xpM 0 62 (xpN 62 63 (xpF 63 0 64 (xlO 64 65 (xpM 5 66 (xp (.bin .mul (xr 66) (xi 7)) 67 (xp (.bin .add (xr 67) (xi 3)) 68 (xpM 0 69 (xpN 69 70 (xpF 70 0 71 (xlO 71 72 (xp (.len (xr 72)) 73 (xp (.bin .rem (xr 68) (xr 73)) 74 (xpI 65 74 1 75 (xlO 75 76 (xp (.cvi .i64 (xr 76)) 77 (xp (.bin .mul (xr 77) (xi 1117)) 78 (xp (.bin .add (xr 61) (xr 78)) 79 (xpM 5 80 (xp (.bin .mul (xr 80) (xi 29)) 81 (xp (.bin .add (xr 79) (xr 81)) 82 (xpM 5 83 (xpM 0 84 (xpN 84 85 (xpF 85 0 86 (xlO 86 87 (xp (.len (xr 87)) 88 (xp (.bin .quo (xr 83) (xr 88)) 89 (xp (.bin .mul (xr 89) (xi 53)) 90 (xp (.bin .add (xr 82) (xr 90)) 91 (xpM 91 6 .done)))))))))))))))))))))))))))))))))))))))))))))) (xR (xtM 6 92 (xtM 6 93 (xt (.bin .quo (xr 93) (xi 64)) 94 (xt (.bin .xor (xr 92) (xr 94)) 95 (xtM 95 6 .done))))) (xR (xtM 6 96 (xtM 1 97 (xt (.bin .rem (xr 96) (xr 97)) 98 (xtM 98 4 .done)))) .ret))))))))
theorem ic52_ok : Tryz.f52.body.bind (trC Tryz.prog []) = some ic52 := by kernel_rfl
def fr52 : List FR := [(FR.t 4)]
theorem fr52_ok : fres Tryz.prog Tryz.f52.results.toList = some fr52 := by kernel_rfl
def ic79 : IC := (xR (xt (.mv (xb false)) 4 .done) (xR (xtM 1 5 (xt (.bin .gtr (xr 5) (xi 0)) 6 (xtM 6 7 (xG (.mv (xr 0)) 8 7 true (xG (.mv (xr 1)) 9 7 true (xG (.call 52 [xr 8, xr 9]) 10 7 true (xG (.mv (xr 1)) 11 7 true (xG (.bin .sub (xr 11) (xi 1)) 12 7 true (xG (.bin .eql (xr 10) (xr 12)) 13 7 true (xt (.pick (xr 7) (xr 13) (xb false)) 14 (xtM 14 4 .done))))))))))) .ret))
theorem ic79_ok : Tryz.f79.body.bind (trC Tryz.prog []) = some ic79 := by kernel_rfl
def fr79 : List FR := [(FR.t 4)]
theorem fr79_ok : fres Tryz.prog Tryz.f79.results.toList = some fr79 := by kernel_rfl
def ic81 : IC := (xR (xt (.mv (.const zS)) 4 .done) (xR (xt (.bsl 5 1 0 [(.int .u8 0)] []) 7 (xtM 7 5 .done)) (.seq (xR (xtM 0 8 (xtM 1 9 (xt (.bin .add (xr 9) (xi 1)) 10 (xt (.call 52 [xr 8, xr 10]) 11 (xtM 11 6 .done))))) (.block 0 (.loop (.seq (xR (xtM 6 12 (xt (.bin .gtr (xr 12) (xi 0)) 13 .done)) (.cond (xr 13) .skip (.exit 0))) (.seq (.block 1 (xQ (xtM 5 16 (xtM 0 17 (xt (.call 52 [xr 17, (xi 256)]) 18 (xtM 0 19 (xt (.call 52 [xr 19, (xi 4)]) 20 (xt (.bsl 3 1 3 [zI] [(0, (xr 18)), (1, (xr 20)), (2, (xi 255))]) 21 (xtM 0 22 (xt (.call 52 [xr 22, (xi 3)]) 23 (xtI 21 23 1 24 (xtO 24 25 (xt (.cvi .u8 (xr 25)) 26 (xt (.bsl 5 1 1 [(.int .u8 0)] [(0, (xr 26))]) 27 (xt (.app 22 (xr 16) (xr 27)) 28 (xtM 28 5 .done)))))))))))))))) (xQ (xtM 6 14 (xt (.bin .sub (xr 14) (xi 1)) 15 (xtM 15 6 .done))))))))) (xR (xtM 5 29 (xtM 29 4 .done)) .ret))))
theorem ic81_ok : Tryz.f81.body.bind (trC Tryz.prog []) = some ic81 := by kernel_rfl
def fr81 : List FR := [(FR.t 4)]
theorem fr81_ok : fres Tryz.prog Tryz.f81.results.toList = some fr81 := by kernel_rfl
def ic53 : IC := (xR (xt (.box 31 (xr 1)) 5 (xt (.alc 35 [zI, zI, zI, zI, zS]) 8 .done)) (xR (xtM 0 11 (xt (.call 52 [xr 11, (xi 2)]) 12 (xtM 12 9 .done))) (.seq (xR (xtM 0 13 (xt (.call 52 [xr 13, (xi 20)]) 14 .done)) (.block 0 (.seq (xR (xt (.bin .eql (xr 14) (xi 0)) 16 (xtM 16 15 .done)) (.cond (xr 15) .skip (xR (xt (.bin .eql (xr 14) (xi 1)) 17 (xtM 17 15 .done)) (.cond (xr 15) .skip (xQ (xt (.bin .eql (xr 14) (xi 2)) 18 (xtM 18 15 .done))))))) (.cond (xr 15) (.seq (.reg [8] (xpM 9 19 (xpM 0 20 (xpF 5 0 21 (xpF 21 3 22 (xlO 22 23 (xpM 0 24 (xm (.call 52 [xr 24, (xi 2)]) 25 (xp (.bin .add (xr 23) (xr 25)) 26 (xm (.call 81 [xr 20, xr 26]) 27 (xp (.bld [zI, zI, zI, zI, zS] [(0, (1, (xi 1))), (1, (1, (xr 19))), (4, (1, (xr 27)))]) 28 (.op .m (.sto (xr 8) (xr 28) 5) none none .done)))))))))))) .ret) (.seq (xR (xt (.bin .eql (xr 14) (xi 3)) 30 (xtM 30 29 .done)) (.cond (xr 29) .skip (xR (xt (.bin .eql (xr 14) (xi 4)) 31 (xtM 31 29 .done)) (.cond (xr 29) .skip (xR (xt (.bin .eql (xr 14) (xi 5)) 32 (xtM 32 29 .done)) (.cond (xr 29) .skip (xQ (xt (.bin .eql (xr 14) (xi 6)) 33 (xtM 33 29 .done))))))))) (.cond (xr 29) (xR (xtM 9 34 (xt (.bld [zI, zI, zI, zI, zS] [(0, (1, (xi 2))), (1, (1, (xr 34)))]) 35 (xS 8 35 5 .done))) .ret) (xR (xt (.bin .eql (xr 14) (xi 7)) 37 (xtM 37 36 .done)) (.cond (xr 36) (xR (xtM 9 38 (xt (.bld [zI, zI, zI, zI, zS] [(0, (1, (xi 3))), (1, (1, (xr 38)))]) 39 (xS 8 39 5 .done))) .ret) (xR (xt (.bin .eql (xr 14) (xi 8)) 41 (xtM 41 40 .done)) (.cond (xr 40) (xR (xtM 9 42 (xtM 0 43 (xt (.call 52 [xr 43, (xi 2)]) 44 (xtM 0 45 (xt (.call 52 [xr 45, (xi 2)]) 46 (xt (.bin .mul (xr 44) (xr 46)) 47 (xt (.bld [zI, zI, zI, zI, zS] [(0, (1, (xi 4))), (1, (1, (xr 42))), (3, (1, (xr 47)))]) 48 (xS 8 48 5 .done)))))))) .ret) (xR (xt (.bin .eql (xr 14) (xi 9)) 50 (xtM 50 49 .done)) (.cond (xr 49) (xR (xtM 9 51 (xt (.bld [zI, zI, zI, zI, zS] [(0, (1, (xi 5))), (1, (1, (xr 51)))]) 52 (xS 8 52 5 .done))) .ret) (xR (xt (.bin .eql (xr 14) (xi 10)) 54 (xtM 54 53 .done)) (.cond (xr 53) (xR (xtM 9 55 (xt (.bld [zI, zI, zI, zI, zS] [(0, (1, (xi 6))), (1, (1, (xr 55)))]) 56 (xS 8 56 5 .done))) .ret) (xR (xt (.bin .eql (xr 14) (xi 11)) 58 (xtM 58 57 .done)) (.cond (xr 57) (xR (xtM 2 59 .done) (.cond (xr 59) (xR (xtM 9 60 (xt (.bld [zI, zI, zI, zI, zS] [(0, (1, (xi 8))), (1, (1, (xr 60)))]) 61 (xS 8 61 5 .done))) .ret) .skip)) (xR (xt (.bin .eql (xr 14) (xi 12)) 63 (xtM 63 62 .done)) (.cond (xr 62) (xR (xtM 2 64 .done) (.cond (xr 64) (xR (xtM 9 65 (xtM 0 66 (xt (.call 52 [xr 66, (xi 16)]) 67 (xtM 0 68 (xt (.call 52 [xr 68, (xi 255)]) 69 (xt (.bin .add (xi 1) (xr 69)) 70 (xt (.bld [zI, zI, zI, zI, zS] [(0, (1, (xi 9))), (1, (1, (xr 65))), (2, (1, (xr 67))), (3, (1, (xr 70)))]) 71 (xS 8 71 5 .done)))))))) .ret) .skip)) (xR (xt (.bin .eql (xr 14) (xi 13)) 73 (xtM 73 72 .done)) (.cond (xr 72) (.seq (xR (xtM 2 74 (xtM 74 75 (xG (.mv (xr 0)) 76 75 true (xG (.call 52 [xr 76, (xi 4)]) 77 75 true (xG (.bin .eql (xr 77) (xi 0)) 78 75 true (xt (.pick (xr 75) (xr 78) (xb false)) 79 .done)))))) (.cond (xr 79) (xR (xt (.bld [zI, zI, zI, zI, zS] [(0, (1, (xi 10)))]) 80 (xS 8 80 5 .done)) .ret) .skip)) (xR (xtM 3 81 .done) (.cond (xr 81) (xR (xtM 0 82 (xt (.call 83 [xr 82, (xi 0)]) 83 (xt (.call 82 [xr 83]) 84 (xtM 84 10 .done)))) (.seq (xR (xtM 0 85 (xt (.call 52 [xr 85, (xi 4)]) 86 (xt (.bin .eql (xr 86) (xi 0)) 87 .done))) (.cond (xr 87) (xQ (xtM 0 88 (xt (.call 81 [xr 88, (xi 15)]) 89 (xtM 89 10 .done)))) .skip)) (xR (xtM 9 90 (xtM 10 91 (xt (.bld [zI, zI, zI, zI, zS] [(0, (1, (xi 11))), (1, (1, (xr 90))), (4, (1, (xr 91)))]) 92 (xS 8 92 5 .done)))) .ret))) .skip))) .skip)))))))))))))))))))) (xR (xtM 9 93 (xt (.bld [zI, zI, zI, zI, zS] [(0, (1, (xi 7))), (1, (1, (xr 93)))]) 94 (xS 8 94 5 .done))) .ret))))
theorem ic53_ok : Tryz.f53.body.bind (trC Tryz.prog []) = some ic53 := by kernel_rfl
def fr53 : List FR := [(FR.c 8 5 true)]
theorem fr53_ok : fres Tryz.prog Tryz.f53.results.toList = some fr53 := by kernel_rfl
def ic24 : IC := (xR (xt (.alc 24 [zI, zI, zI, zI, zI]) 10 (xt (.mv (.const zS)) 11 (xt (.alc 31 [zI, zI, zI, zI, zI, zS, zS, zI]) 12 .done))) (xR (xtM 0 18 (xt (.call 50 [xr 18, (xi 0)]) 19 (xt (.alc 24 [zI, zI, zI, zI, zI]) 13 (xS 13 19 5 .done)))) (.seq (xR (xtM 2 20 (xt (.bin .gtr (xr 20) (xi 0)) 21 .done)) (.cond (xr 21) (xQ (xtM 2 22 (xtF 13 0 23 (xS 23 22 1 .done)))) .skip)) (xR (xtA 13 5 24 (xt (.call 51 [xr 24]) 25 (xt (.alc 31 [zI, zI, zI, zI, zI, zS, zS, zI]) 14 (xS 14 25 8 .done)))) (xR (xt (.bsl 35 5 0 [zI, zI, zI, zI, zS] []) 26 (xtM 26 15 .done)) (.seq (xR (xtM 0 27 (xtM 1 28 (xt (.call 52 [xr 27, xr 28]) 29 (xtM 29 16 .done)))) (.block 0 (.loop (.seq (xR (xtM 16 30 (xt (.bin .gtr (xr 30) (xi 0)) 31 .done)) (.cond (xr 31) .skip (.exit 0))) (.seq (.block 1 (xR (xtM 0 34 (xtA 14 8 35 (xtM 3 36 (xtM 4 37 (xt (.call 53 [xr 34, xr 35, xr 36, xr 37]) 38 (xt (.alc 35 [zI, zI, zI, zI, zS]) 17 (xS 17 38 5 .done))))))) (xR (xtM 15 39 (xtA 17 5 40 (xt (.bsl 35 5 1 [zI, zI, zI, zI, zS] [(0, (xr 40))]) 41 (xt (.app 25 (xr 39) (xr 41)) 42 (xtM 42 15 .done))))) (xQ (xtA 14 8 43 (xtA 17 5 44 (xt (.call 54 [xr 43, xr 44]) 45 (xS 14 45 8 .done)))))))) (xQ (xtM 16 32 (xt (.bin .sub (xr 32) (xi 1)) 33 (xtM 33 16 .done))))))))) (.seq (.reg [10, 12] (xlA 13 5 46 (xpM 15 47 (xlA 14 8 48 (xm (.call 55 [xr 48]) 49 (.op .m (.sto (xr 10) (xr 46) 5) none none (xpM 47 11 (.op .m (.sto (xr 12) (xr 49) 8) none none .done)))))))) .ret)))))))
theorem ic24_ok : Tryz.f24.body.bind (trC Tryz.prog []) = some ic24 := by kernel_rfl
def fr24 : List FR := [(FR.c 10 5 true), (FR.t 11), (FR.c 12 8 true)]
theorem fr24_ok : fres Tryz.prog Tryz.f24.results.toList = some fr24 := by kernel_rfl
def ic15 : IC := (xR (xt (.mv (xb false)) 0 .done) (xR (xt (.bld [zI, zI, zI, zI, zI] [(0, (1, (xi 1))), (1, (1, (xi 1))), (2, (1, (xi 1))), (3, (1, (xi 1))), (4, (1, (xi 1)))]) 1 (xt (.call 26 [xr 1]) 2 (xtM 2 0 .done))) .ret))
theorem ic15_ok : Tryz.f15.body.bind (trC Tryz.prog []) = some ic15 := by kernel_rfl
def fr15 : List FR := [(FR.t 0)]
theorem fr15_ok : fres Tryz.prog Tryz.f15.results.toList = some fr15 := by kernel_rfl
set_option maxHeartbeats 1000000
abbrev rdA (b : Nat) (A : Option Addr) (n c : Nat) (p : Int) : Asrt := ptrA 99 b [.slice A n c, .int .i64 p]
theorem pick_s (b : Nat) (A : Option Addr) (c : Nat) (code : List Int) (p n : Int) (z : Zc) (hb : By z code (.slice A code.length c)) (hp : 0 ≤ p ∧ p ≤ 1000000) (hl : code.length ≤ 2000) (hn : -1000000 ≤ n ∧ n ≤ 1000000) :
    Spec Tryz.prog 52 [.pointer (some ⟨b, 0, none⟩), .int .i64 n] z (starL [rdA b A code.length c p]) fun v z' A' => ∃ x : Int, v = .int .i64 x ∧ A' = starL [rdA b A code.length c (p + 1)] ∧ z = z' ∧ 0 ≤ x ∧ (1 ≤ n → x < n) ∧ (n < 1 → x = 0) := by
  obtain ⟨A', c', hs, hc, hB, hr⟩ := hb.form
  injection hs with e1 _ e3
  subst e1
  subst e3
  have w1 : IntKind.i64.wrap (p + 1) = p + 1 := wrap_in (by omega) (by omega)
  have w2 : IntKind.i64.wrap (p + 1 - 1) = p := by rw [wrap_in (by omega) (by omega)]; omega
  (refine spec_enterP [] Tryz.func52 ic52_ok fr52_ok Tryz.ntmps52 rfl ?_; simp only [seval, go_sem, ic52, fr52, zipL, vals])
  refine gO ?_
  simp only [w1]
  (with_reducible refine guardR.split (fun hg => ?_) (fun hg => ?_) <;> (try simp only [hg]) <;> simp only [seval, go_sem])
  · refine gO ?_
    (refine FinV.give 1000 0 2001 2000 rfl rfl rfl ?_); simp only [seval, go_sem, giveSt, subV, subC, subE, subL]
    (refine FinV.pk 999 [1000] ?_); dsimp only
    refine fP ?_
    have : n < 1 := by simpa using hg
    exact ⟨0, rfl, by omega, by omega, by omega⟩
  · have hn1 : 1 ≤ n := by simp at hg; omega
    refine gO ?_
    (with_reducible refine condI.split (fun hg => ?_) (fun hg => ?_) <;> (try simp only [hg]) <;> (try simp only [seval, go_sem]))
    · refine gO ?_
      (refine FinV.give 1000 0 2001 2000 rfl rfl rfl ?_); simp only [seval, go_sem, giveSt, subV, subC, subE, subL]
      (refine FinV.pk 999 [1000] ?_); dsimp only
      refine fP ?_
      exact ⟨0, rfl, by omega, by omega, by omega⟩
    · have hl0 : 0 < code.length := by simp at hg; exact List.length_pos_iff.2 hg
      have hat : IsAt A := byte_is hr hl0
      refine gO ?_
      simp only [w2]
      (with_reducible refine condI.split (fun hg => ?_) (fun hg => ?_) <;> (try simp only [hg]) <;> (try simp only [seval, go_sem]))
      · have hpl : p.toNat < code.length := by simp at hg; omega
        obtain ⟨x, hx⟩ : ∃ x, code[p.toNat]? = some x := ⟨_, List.getElem?_eq_getElem hpl⟩
        have hx255 := hB x (List.mem_of_getElem? hx)
        refine gO ?_
        (refine ⟨⟨by omega, by omega, hat⟩, ?_⟩; (try simp only [seval, go_sem]))
        (refine ldF.one _ (by first | exact .inl (byte_at hr (k := p.toNat) hx) | exact (byte_at hr (k := p.toNat) hx)) ?_; (try simp only [seval, go_sem]))
        refine ⟨by omega, ?_⟩
        refine gO ?_
        (refine FinV.give 1000 0 2001 2000 rfl rfl rfl ?_); simp only [seval, go_sem, giveSt, subV, subC, subE, subL]
        (refine FinV.pk 999 [1000] ?_); dsimp only
        refine fP ?_
        rw [wrap_in (by omega) (by omega), Int.tmod_eq_emod_of_nonneg (by omega)]
        exact ⟨_, rfl, Int.emod_nonneg _ (by omega), fun _ => Int.emod_lt_of_pos _ (by omega), by omega⟩
      · refine gO ?_
        obtain ⟨q, rfl⟩ := Int.eq_ofNat_of_zero_le hp.1
        have hm1 : q % code.length < code.length := Nat.mod_lt _ hl0
        have hm2 : (q * 7 + 3) % code.length < code.length := Nat.mod_lt _ hl0
        have hq : q / code.length ≤ q := Nat.div_le_self _ _
        obtain ⟨x, hx⟩ : ∃ x, code[q % code.length]? = some x := ⟨_, List.getElem?_eq_getElem hm1⟩
        obtain ⟨y, hy⟩ : ∃ y, code[(q * 7 + 3) % code.length]? = some y := ⟨_, List.getElem?_eq_getElem hm2⟩
        have hx255 := hB x (List.mem_of_getElem? hx)
        have hy255 := hB y (List.mem_of_getElem? hy)
        have t1 : (q : Int).tmod (code.length : Int) = ((q % code.length : Nat) : Int) := rfl
        have t2 : (IntKind.i64.wrap (IntKind.i64.wrap ((q : Int) * 7) + 3)).tmod (code.length : Int) = (((q * 7 + 3) % code.length : Nat) : Int) := by
          rw [wrap_in (n := (q : Int) * 7) (by omega) (by omega), wrap_in (by omega) (by omega)]
          exact (show (((q * 7 + 3 : Nat) : Int)).tmod (code.length : Int) = _ from rfl)
        have t3 : (q : Int).tdiv (code.length : Int) = ((q / code.length : Nat) : Int) := rfl
        simp only [t1, t2, t3]
        refine ⟨by omega, ?_⟩
        (refine ⟨⟨by omega, by omega, hat⟩, ?_⟩; (try simp only [seval, go_sem]))
        (refine ldF.one _ (by first | exact .inl (byte_at hr hx) | exact (byte_at hr hx)) ?_; (try simp only [seval, go_sem]))
        refine gO ?_
        simp only [t2]
        refine ⟨by omega, ?_⟩
        (refine ⟨⟨by omega, by omega, hat⟩, ?_⟩; (try simp only [seval, go_sem]))
        (refine ldF.one _ (by first | exact .inl (byte_at hr hy) | exact (byte_at hr hy)) ?_; (try simp only [seval, go_sem]))
        refine gO ?_
        refine ⟨by omega, ?_⟩
        simp only [t3]
        refine gO ?_
        refine ⟨by omega, ?_⟩
        refine gO ?_
        (refine FinV.give 1000 0 2001 2000 rfl rfl rfl ?_); simp only [seval, go_sem, giveSt, subV, subC, subE, subL]
        (refine FinV.pk 999 [1000] ?_); dsimp only
        refine fP ?_
        obtain ⟨x, rfl⟩ := Int.eq_ofNat_of_zero_le hx255.1
        obtain ⟨y, rfl⟩ := Int.eq_ofNat_of_zero_le hy255.1
        generalize hd : q / code.length = d at *
        have hX : IntKind.i64.wrap (IntKind.i64.wrap (IntKind.i64.wrap (IntKind.i64.wrap (IntKind.i64.wrap (x : Int) * 131) + IntKind.i64.wrap (IntKind.i64.wrap (y : Int) * 1117)) + IntKind.i64.wrap ((q : Int) * 29)) + IntKind.i64.wrap (IntKind.i64.wrap (d : Int) * 53)) = ((x * 131 + y * 1117 + q * 29 + d * 53 : Nat) : Int) := by
          simp (disch := omega) only [wrap_in]
          omega
        rw [hX]
        generalize hY : x * 131 + y * 1117 + q * 29 + d * 53 = Y
        have hYb : Y < 2 ^ 40 := by omega
        have h64 : (Y : Int).tdiv 64 = ((Y / 64 : Nat) : Int) := rfl
        rw [h64, wrap_in (by omega) (by omega), bits_xor_i64 Y (Y / 64) (by omega) (by omega)]
        obtain ⟨n', rfl⟩ := Int.eq_ofNat_of_zero_le (show 0 ≤ n by omega)
        exact ⟨((Y ^^^ (Y / 64)) % n' : Nat), rfl, by omega, fun _ => by have := Nat.mod_lt (Y ^^^ (Y / 64)) (show 0 < n' by omega); omega, by omega⟩
theorem FinV.giveN {s : St} {fr : List FR} {R : Value → Zc → Asrt → Prop} (k j m : Nat) {e : Nat} {cs : List SC} {vs : List Value} (hk : look j s.L = some (.cells e cs)) (hv : allV cs = some vs) (h : ∀ b, FinV fr (giveSt s k j m b e vs) R) : FinV fr s R := fun C ρ a w hs => by
  obtain ⟨b, _, hs'⟩ := hs.give k j m hk hv
  exact h b C ρ a w hs'
theorem open_s (code : List Int) (v : Value) (z : Zc) (h : By z code v) (hl : code.length ≤ 1000000000) : Spec Tryz.prog 25 [v] z emp fun u z' A' => ∃ b A c cd, u = .pointer (some ⟨b, 0, none⟩) ∧ A' = starL [rdA b A cd.length c 0] ∧ cd.length ≤ 2000 ∧ By z' cd (.slice A cd.length c) := by
  obtain ⟨A, c, rfl, hc, hB, hr⟩ := h.form
  (refine spec_enter0 Tryz.func25 ic25_ok fr25_ok Tryz.ntmps25 ?_; simp only [seval, go_sem, ic25, fr25])
  refine gO ?_
  (with_reducible refine condI.split (fun hg => ?_) (fun hg => ?_) <;> (try simp only [hg]) <;> (try simp only [seval, go_sem]))
  · have h2 : 2000 < code.length := by have := of_decide_eq_true hg; omega
    refine gO ?_
    refine ⟨by omega, ?_⟩; refine gO ?_
    refine FinV.giveN 90 0 91 rfl rfl fun b => ?_
    simp only [seval, go_sem, giveSt, subV, subC, subE, subL]
    (refine FinV.pk 92 [90] ?_); dsimp only
    (((try simp only [seval, go_sem]);repeat((with_reducible first|refine vJ ?_|refine vK ?_);try simp only [seval, go_sem])); refine FinV.own 92 rfl ?_; simp only [finE, finS, gt, look, SV.toV, SC.toV, allV, tupV, zq1, zq2, zq3, zq4, Nat.reduceAdd, Nat.reduceEqDiff, reduceCtorEq, if_true, if_false, reduceIte, Nat.succ_ne_self, true_and, zq5, zq7, zq8])
    have hk : By z (code.take 2000) (.slice A 2000 c) := Sl.take h (by omega) (by omega)
    have hk2 : (code.take 2000).length = 2000 := by simp; omega
    exact ⟨b, A, c, code.take 2000, rfl, by rw [hk2], by omega, by rw [hk2]; exact hk⟩
  · have h2 : code.length ≤ 2000 := by have := of_decide_eq_false hg; omega
    refine gO ?_
    refine FinV.giveN 90 0 91 rfl rfl fun b => ?_
    simp only [seval, go_sem, giveSt, subV, subC, subE, subL]
    (refine FinV.pk 92 [90] ?_); dsimp only
    (((try simp only [seval, go_sem]);repeat((with_reducible first|refine vJ ?_|refine vK ?_);try simp only [seval, go_sem])); refine FinV.own 92 rfl ?_; simp only [finE, finS, gt, look, SV.toV, SC.toV, allV, tupV, zq1, zq2, zq3, zq4, Nat.reduceAdd, Nat.reduceEqDiff, reduceCtorEq, if_true, if_false, reduceIte, Nat.succ_ne_self, true_and, zq5, zq7, zq8])
    exact ⟨b, A, c, code, rfl, rfl, h2, h⟩
theorem odd0 (b : Nat) (A : Option Addr) (n c : Nat) (p : Int) (z : Zc) : Spec Tryz.prog 79 [.pointer (some ⟨b, 0, none⟩), .int .i64 0] z (starL [rdA b A n c p]) fun v z' A' => v = .bool false ∧ A' = starL [rdA b A n c p] ∧ z = z' := by
  (refine spec_enter1 Tryz.func79 ic79_ok fr79_ok Tryz.ntmps79 ?_; simp only [seval, go_sem, ic79, fr79])
  refine gO ?_
  try simp only [seval, go_sem, show decide ((0 : Int) > 0) = false from rfl]
  refine gO ?_
  (((try simp only [seval, go_sem]);repeat((with_reducible first|refine vJ ?_|refine vK ?_);try simp only [seval, go_sem])); refine FinV.own 1000 rfl ?_; simp only [finE, finS, gt, look, SV.toV, SC.toV, allV, tupV, zq1, zq2, zq3, zq4, Nat.reduceAdd, Nat.reduceEqDiff, reduceCtorEq, if_true, if_false, reduceIte, Nat.succ_ne_self, true_and, zq5, zq7, zq8])
structure BytS where
  k : Nat
  out : List Int
  v : Value
  p : Int
theorem bytes_s (b : Nat) (A : Option Addr) (c : Nat) (code : List Int) (p n : Int) (z : Zc) (hb : By z code (.slice A code.length c)) (hp : 0 ≤ p ∧ p ≤ 900000) (hl : code.length ≤ 2000) (hn : 0 ≤ n ∧ n ≤ 1000) :
    Spec Tryz.prog 81 [.pointer (some ⟨b, 0, none⟩), .int .i64 n] z (starL [rdA b A code.length c p]) fun v z' A' => ∃ (out : List Int) (B : Option Addr) (k : Nat) (p' : Int), v = .slice B out.length k ∧ A' = starL [rdA b A code.length c p'] ∧ By z' out (.slice B out.length k) ∧ (out.length : Int) ≤ n ∧ p ≤ p' ∧ p' ≤ p + 1 + 3 * n := by
  (refine spec_enter1 Tryz.func81 ic81_ok fr81_ok Tryz.ntmps81 ?_; simp only [seval, go_sem, ic81, fr81])
  refine gO ?_
  have w1 : IntKind.i64.wrap (n + 1) = n + 1 := wrap_in (by omega) (by omega)
  simp only [w1]
  refine tT ?_; refine callW 1000 (pick_s b A c code p (n + 1) z hb (by omega) hl (by omega)) rfl rfl rfl rfl ?_; rintro v z1 A' hz1 ⟨x, rfl, rfl, rfl, hx0, hx1, hx2⟩; refine gO ?_
  obtain ⟨k0, rfl⟩ := Int.eq_ofNat_of_zero_le hx0
  refine loopV.toRow 90 0 rfl rfl (m := 0) (sz := 1) rfl (by omega) (fun b0 => ?_)
  simp only [seval, go_sem, rowSt, subV, subC, subE, subL]
  refine loop_upd (ι := BytS) (n := 1) (fun s => s.k + s.out.length = k0 ∧ Bys s.out ∧ s.p = p + 1 + 3 * s.out.length) (fun s => [(6, .c (.v (.int .i64 s.k))), (5, .c (.v s.v))]) (fun s => [(1000, .own (starL [rdA b A code.length c s.p])), (90, .own (rowA 5 1 s.v s.out.length (bc s.out)))]) (fun _ => z) (fun s => s.k) ⟨k0, [], .slice (some ⟨b0, 0, none⟩) 0 0, p + 1⟩ ⟨by simp, by simp [Bys], by simp⟩ (by (simp only [wrI, wrR, anyL, st, List.append_nil, List.nil_append, List.cons_append]); exact rfl) ?_ ?_
  · exact lE
  · rintro ⟨k, out, v, p1⟩ ⟨hk, hB, hp1⟩
    dsimp only at *
    refine gO ?_
    (with_reducible refine condI.split (fun hg => ?_) (fun hg => ?_) <;> (try simp only [hg]) <;> (try simp only [seval, go_sem]))
    · have hk0 : 0 < k := by have := of_decide_eq_true hg; omega
      refine gO ?_
      refine tT ?_; refine callW 1000 (pick_s b A c code p1 256 z hb (by omega) hl (by omega)) rfl rfl rfl rfl ?_; rintro v1 z1 A' hz1 ⟨y1, rfl, rfl, rfl, hy1, _, _⟩; refine gO ?_
      refine tT ?_; refine callW 1000 (pick_s b A c code (p1 + 1) 4 z hb (by omega) hl (by omega)) rfl rfl rfl rfl ?_; rintro v2 z1 A' hz2 ⟨y2, rfl, rfl, rfl, hy2, _, _⟩; refine gO ?_
      refine tT ?_; refine callW 1000 (pick_s b A c code (p1 + 1 + 1) 3 z hb (by omega) hl (by omega)) rfl rfl rfl rfl ?_; rintro v3 z1 A' hz3 ⟨y3, rfl, rfl, rfl, hy3, hy3', _⟩; refine gO ?_
      have hw2 : IntKind.i64.wrap ((k : Int) - 1) = ((k - 1 : Nat) : Int) := by rw [wrap_in (by omega) (by omega)]; omega
      refine ⟨⟨hy3, by omega⟩, by omega, ?_⟩
      have hy : y3 = 0 ∨ y3 = 1 ∨ y3 = 2 := by have := hy3' (by omega); omega
      have hu8 : ∀ y : Int, 0 ≤ IntKind.u8.wrap y ∧ IntKind.u8.wrap y ≤ 255 := fun y => by rw [IntKind.wrap_u8]; omega
      rcases hy with rfl | rfl | rfl
      · simp only [seval, go_sem, Int.reduceToNat]
        refine gO ?_
        refine aT ?_; (refine appM_new 90 atyB rfl rfl rfl rfl rfl rfl rfl (by simp [Value.oneCell']) (by omega) (fun v4 => ?_)); refine gO ?_
        simp only [hw2]
        refine ⟨⟨k - 1, out ++ [IntKind.u8.wrap y1], v4, p1 + 1 + 1 + 1⟩, ⟨by simp; omega, Bys.append hB (fun x hx => by rw [List.mem_singleton.1 hx]; exact hu8 _), by simp; omega⟩, by dsimp only; omega, ?_⟩
        rw [show out.length + 1 = (out ++ [IntKind.u8.wrap y1]).length by simp, show bc out ++ [Value.int .u8 (IntKind.u8.wrap y1)] = bc (out ++ [IntKind.u8.wrap y1]) by simp [bc]]
        exact lE
      · simp only [seval, go_sem, Int.reduceToNat]
        refine gO ?_
        refine aT ?_; (refine appM_new 90 atyB rfl rfl rfl rfl rfl rfl rfl (by simp [Value.oneCell']) (by omega) (fun v4 => ?_)); refine gO ?_
        simp only [hw2]
        refine ⟨⟨k - 1, out ++ [IntKind.u8.wrap y2], v4, p1 + 1 + 1 + 1⟩, ⟨by simp; omega, Bys.append hB (fun x hx => by rw [List.mem_singleton.1 hx]; exact hu8 _), by simp; omega⟩, by dsimp only; omega, ?_⟩
        rw [show out.length + 1 = (out ++ [IntKind.u8.wrap y2]).length by simp, show bc out ++ [Value.int .u8 (IntKind.u8.wrap y2)] = bc (out ++ [IntKind.u8.wrap y2]) by simp [bc]]
        exact lE
      · simp only [seval, go_sem, Int.reduceToNat]
        refine gO ?_
        refine aT ?_; (refine appM_new 90 atyB rfl rfl rfl rfl rfl rfl rfl (by simp [Value.oneCell']) (by omega) (fun v4 => ?_)); refine gO ?_
        simp only [hw2]
        refine ⟨⟨k - 1, out ++ [IntKind.u8.wrap 255], v4, p1 + 1 + 1 + 1⟩, ⟨by simp; omega, Bys.append hB (fun x hx => by rw [List.mem_singleton.1 hx]; exact hu8 _), by simp; omega⟩, by dsimp only; omega, ?_⟩
        rw [show out.length + 1 = (out ++ [IntKind.u8.wrap 255]).length by simp, show bc out ++ [Value.int .u8 (IntKind.u8.wrap 255)] = bc (out ++ [IntKind.u8.wrap 255]) by simp [bc]]
        exact lE
    · have hk0 : k = 0 := by have := of_decide_eq_false hg; omega
      refine gO ?_
      (refine FinV.frzR 90 rfl (fun A4 c4 z4 hv4 hc4 hz4 hr4 => ?_)); dsimp only at hz4; (try subst hv4); simp only [seval, go_sem]
      refine fQ ?_
      exact ⟨out, A4, c4, p1, rfl, rfl, By.mk hc4 hB hr4, by omega, by omega, by omega⟩
def EvC (ev : Evt) : Prop := (1 ≤ ev.kind ∧ ev.kind ≤ 7) ∧ (ev.who = 0 ∨ ev.who = 1) ∧ ev.data.length ≤ 100
mutual
def roundsV (P : Program) (ic : IC) (K : Exit → St → Prop) : Nat → St → Prop
  | 0, _ => False
  | n + 1, s => vcI P ic s (roundK P ic K n)
def roundK (P : Program) (ic : IC) (K : Exit → St → Prop) : Nat → Exit → St → Prop
  | n, .normal, s => roundsV P ic K n s
  | _, e, s => K e s
end
section
variable {P : Program} {ic : IC} {K : Exit → St → Prop} {s : St}
theorem roundsV_succ {n : Nat} : roundsV P ic K (n + 1) s = vcI P ic s (roundK P ic K n) := by rw [roundsV]
theorem roundK_normal {n : Nat} : roundK P ic K n .normal s = roundsV P ic K n s := by rw [roundK]
theorem roundK_exit {n x : Nat} : roundK P ic K n (.exit x) s = K (.exit x) s := by rw [roundK]; simp
theorem roundK_ret {n : Nat} : roundK P ic K n .ret s = K .ret s := by rw [roundK]; simp
theorem loopV.rounds (n : Nat) (h : roundsV P ic K n s) : loopV P ic s K := fun pl c hc C ρ a w hs => by
  refine wp_loop_rounds n ?_
  induction n generalizing s ρ a w with
  | zero => rw [roundsV] at h; exact h.elim
  | succ n ih =>
    rw [roundsV_succ] at h
    rw [rounds_succ]
    refine wp_mono (vcI_sound c ic hc s _ C ρ a w h hs) ?_
    rintro e a' w' ⟨hp, s', ρ', hk, hs'⟩
    cases e with
    | normal => rw [roundK_normal] at hk; exact ih hk ρ' a' w' hs'
    | exit id => rw [roundK_exit] at hk; exact ⟨hp, s', ρ', hk, hs'⟩
    | ret => rw [roundK_ret] at hk; exact ⟨hp, s', ρ', hk, hs'⟩
    | goto l => rw [roundK] at hk; exact ⟨hp, s', ρ', hk, hs'⟩; simp
    | panic c => exact hp.elim
    | outgrown => exact hp.elim
end
theorem atyE : AppTy Tryz.prog 28 49 28 := AppTy.of (by kernel_rfl)
theorem atyN : AppTy Tryz.prog 29 50 1 := AppTy.of (by kernel_rfl)
theorem Tf.addE {s : St} (k : Nat) (hk : look k s.L = none) : Tf s ⟨s.t, (k, .own (starL [])) :: s.L, s.z, s.n⟩ :=
  Tf.mk' (fun {ρ w F} hh => ⟨fun _ => False, F, fun _ h => h, hh, fun _ h => h.elim, fun b => by simp⟩) fun {j e cs} hj => by
    by_cases e' : k = j
    · subst e'; rw [hk] at hj; cases hj
    · show (if k = j then _ else _) = _
      rw [if_neg e']; exact hj
theorem new_s (c : Cfg) (z : Zc) (hc : cfgOk c = true) : Spec Tryz.prog 51 [vCfg c] z emp (WldH c (wldNew c)) := by
  (refine spec_enter0 Tryz.func51 ic51_ok fr51_ok Tryz.ntmps51 ?_; simp only [seval, go_sem, ic51, fr51])
  refine gO ?_
  refine tT ?_; refine callP (cfgok_s c z) rfl rfl ?_; rintro _ _ - ⟨rfl, rfl⟩; refine gO ?_
  simp only [seval, go_sem, hc]
  refine gO ?_
  refine loopV.tf (Tf.nilRow 10 tyE 28 rfl) ?_
  refine loopV.tf (Tf.nilRow 11 tyN 1 rfl) ?_
  dsimp only
  refine loopV.rounds 3 ?_
  rw [roundsV_succ]
  refine gO ?_
  refine aT ?_; (refine appM_newF 10 atyE rfl rfl rfl rfl rfl rfl rfl (by simp [Value.oneCell']) (by omega) (fun A1 Ac1 hA1 hA1x => ?_)); refine gO ?_
  (refine appT.toRow 40 4 (m := 0) (sz := 2) rfl rfl rfl (by omega) (fun b => ?_)); simp only [seval, go_sem, rowSt, subV, subC, subE, subL]
  refine aT ?_; (refine appM_newF 11 atyN rfl rfl rfl rfl rfl rfl rfl (by simp [Value.oneCell']) (by omega) (fun A2 Ac2 hA2 hA2x => ?_)); refine gO ?_
  simp only [seval, go_sem, roundK_normal]
  rw [roundsV_succ]
  try simp only [show IntKind.i64.wrap 1 = 1 from rfl]
  refine gO ?_
  refine aT ?_; (refine appM_newF 10 atyE rfl rfl rfl rfl rfl rfl rfl (by simp [Value.oneCell']) (by omega) (fun B1 Bc1 hB1 hB1x => ?_)); refine gO ?_
  (refine appT.toRow 50 7 (m := 0) (sz := 2) rfl rfl rfl (by omega) (fun b => ?_)); simp only [seval, go_sem, rowSt, subV, subC, subE, subL]
  refine aT ?_; (refine appM_newF 11 atyN rfl rfl rfl rfl rfl rfl rfl (by simp [Value.oneCell']) (by omega) (fun B2 Bc2 hB2 hB2x => ?_)); refine gO ?_
  simp only [seval, go_sem, roundK_normal]
  rw [roundsV_succ]
  try simp only [show IntKind.i64.wrap 2 = 2 from rfl]
  refine gO ?_
  simp only [seval, go_sem, roundK_exit]
  refine gO ?_
  refine FinV.tf (Tf.nilRow 20 tyP 3 rfl) ?_
  refine FinV.tf (Tf.nilRow 21 tyP 3 rfl) ?_
  refine FinV.tf (Tf.nilRow 22 tyS 1 rfl) ?_
  refine FinV.tf (Tf.nilRow 23 tyS 1 rfl) ?_
  refine FinV.tf (Tf.nilRow 30 tyP 3 rfl) ?_
  refine FinV.tf (Tf.nilRow 31 tyP 3 rfl) ?_
  refine FinV.tf (Tf.nilRow 32 tyS 1 rfl) ?_
  refine FinV.tf (Tf.nilRow 33 tyS 1 rfl) ?_
  refine FinV.tf (Tf.addE 41 rfl) ?_
  refine FinV.tf (Tf.addE 51 rfl) ?_
  dsimp only
  refine wS ?_
  rw [show wldNew c = ⟨c, [end0, end0], [[], []], 0⟩ by unfold wldNew; rw [if_pos hc]]
  have hE : EndR z end0 ⟨none, 0, [], none, 0, [], none, 0, [], none, 0, [], none, 0, none, 0, none, 0⟩ := ⟨rfl, Nat.le_refl _, rfl, Nat.le_refl _, rfl, Nat.le_refl _, rfl, Nat.le_refl _, Sl.nil _ _ _, Sl.nil _ _ _, Sl.nil _ _ _⟩
  exact ⟨end0, end0, [], [], ⟨B1, Bc1, B2, Bc2, _, _, ⟨_, 0, []⟩, ⟨_, 0, []⟩⟩, rfl, rfl, rfl, rfl, rfl, ⟨hE, hE, ⟨trivial, Nat.le_refl _⟩, ⟨trivial, Nat.le_refl _⟩⟩⟩
def RdA (A : Asrt) (G : Zc → Prop) : Prop := ∀ (z : Zc) (F : Nat → Prop), A.holds z.w F → (∀ b, F b → z.ok b) → G z
theorem RdA.row {e sz n c : Nat} {A : Option Addr} {cs : List Value} : RdA (rowA e sz (.slice A n c) n cs) fun z => RdAt z A 0 cs := fun z F ⟨hrow, hF⟩ hz => by
  obtain ⟨A', c', h1, h2, h3⟩ := hrow.rd
  injection h1 with h1 _ _
  subst h1
  intro hn
  obtain ⟨b, o, e1, hc⟩ := h3 hn
  subst e1
  have hb : F b := (hF b).2 rfl
  exact ⟨b, o, rfl, ⟨hz b hb, hrow.lt b rfl⟩, fun i u hu => by have := hc i u hu; simpa using this⟩
theorem RdA.cons {A : Asrt} {As : List Asrt} {G H : Zc → Prop} (h : RdA A G) (k : RdA (starL As) H) : RdA (starL (A :: As)) fun z => G z ∧ H z := fun z F ⟨F1, F2, h1, h2, hd, hF⟩ hz => ⟨h z F1 h1 fun b hb => hz b ((hF b).2 (.inl hb)), k z F2 h2 fun b hb => hz b ((hF b).2 (.inr hb))⟩
theorem RdA.nil : RdA (starL []) fun _ => True := fun _ _ _ _ => trivial
theorem RdA.bys {l : List Int} {A : Option Addr} {c : Nat} (hc : l.length ≤ c) (hB : Bys l) : RdA (bysA l A c) fun z => By z l (.slice A l.length c) := fun z F h hz => by
  by_cases hl : l = []
  · rw [hl]; exact Sl.nil _ _ _
  · unfold bysA at h
    rw [if_neg hl] at h
    exact By.mk hc hB (RdA.row z F h hz)
theorem RdA.net : ∀ {l : List Msg} {ms : List (Option Addr × Nat)}, netO l ms → RdA (starL (netB l ms)) fun z => Els mRep z l (netV l ms)
  | [], [], _ => fun _ _ _ _ => rfl
  | [], _ :: _, h => h.elim
  | _ :: _, [], h => h.elim
  | m :: l, (a, c) :: ms, h => fun z F hh hz => by
    obtain ⟨F1, F2, h1, h2, hd, hF⟩ := hh
    exact ⟨[.bool m.bent, .slice a m.bytes.length c], netV l ms, rfl, ⟨_, rfl, RdA.bys h.1.1 h.1.2 z F1 h1 fun b hb => hz b ((hF b).2 (.inl hb))⟩, RdA.net h.2 z F2 h2 fun b hb => hz b ((hF b).2 (.inr hb))⟩
theorem Sat.frzA {C : Ctx} {ρ : Nm} {s : St} {a : Act} {w : World} {k : Nat} {A : Asrt} {G : Zc → Prop} (h : Sat C ρ s a w) (hk : look k s.L = some (.own A)) (hA : RdA A G) : ∃ z', s.z ≤ z' ∧ G z' ∧ Sat C ρ ⟨s.t, del k s.L, z', s.n⟩ a w := by
  obtain ⟨F, hh, hw⟩ := h.mem
  obtain ⟨F1, F2, hA1, k2, kd, kF⟩ := hh.pick hk
  have hlt : ∀ x, s.z.In x → x < w.heap.size := fun x hx => Nat.lt_of_lt_of_le hx.2 hw.zsize
  have hle : s.z ≤ ⟨fun x => s.z.In x ∨ F1 x, w⟩ := ⟨fun x hx => ⟨⟨.inl hx, hlt x hx⟩, hw.frz x hx⟩⟩
  refine ⟨⟨fun x => s.z.In x ∨ F1 x, w⟩, hle, hA _ F1 hA1 (fun b hb => .inr hb), h.df, h.fr, h.nm, F2, k2, ?_⟩
  refine ⟨hw.os, hw.tape, hw.output, hw.size, Nat.le_refl _, fun _ _ => rfl, ?_, hw.unt, fun x hx => hw.own x ((kF x).2 (.inr hx)), ?_, Zc.trans' hw.zle hle⟩
  · rintro x hx ⟨h | h, _⟩
    · exact hw.dis x ((kF x).2 (.inr hx)) h
    · exact kd x h hx
  · rintro x ⟨h | h, _⟩
    · exact hw.zin x h
    · rcases hw.own x ((kF x).2 (.inl h)) with h | h
      · exact .inr (.inl h)
      · exact .inr (.inr h)
theorem vsI.frzA {P : Program} {ic : IC} {K : Exit → St → Prop} {s : St} (k : Nat) {A : Asrt} {G : Zc → Prop} {z0 : Zc} (hk : look k s.L = some (.own A)) (hA : RdA A G) (hz : s.z = z0) (h : ∀ z', z0 ≤ z' → G z' → vsI P ic K ⟨s.t, del k s.L, z', s.n⟩) : vsI P ic K s := by
  subst hz
  exact fun C ρ a w hs => by
    obtain ⟨z', h1, h2, h3⟩ := hs.frzA hk hA
    exact h z' h1 h2 C ρ a w h3
structure EndP (z : Zc) (e : End) (m : EndM) : Prop where
  fl : Sl pRep z e.tx.flight (.slice m.fA e.tx.flight.length m.fC)
  qu : Sl pRep z e.tx.queue (.slice m.qA e.tx.queue.length m.qC)
  pu : Sl sduRep z e.put (.slice m.pA e.put.length m.pC)
  go : Sl sduRep z e.got (.slice m.gA e.got.length m.gC)
  jo : By z e.rx.join.got (.slice m.jA e.rx.join.got.length m.jC)
  cq : Sl pRep z e.ctx.queue (.slice m.cA e.ctx.queue.length m.cC)
  kj : By z e.crx.join.got (.slice m.kA e.crx.join.got.length m.kC)
structure WldP (z : Zc) (e0 e1 : End) (n0 n1 : List Msg) (m : WM) : Prop where
  E : RdAt z m.E 0 (endsC e0 e1 m.m0 m.m1)
  N : RdAt z m.N 0 [.slice m.n0.A n0.length m.n0.C, .slice m.n1.A n1.length m.n1.C]
  e0 : EndP z e0 m.m0
  e1 : EndP z e1 m.m1
  n0 : Sl mRep z n0 (.slice m.n0.A n0.length m.n0.C)
  n1 : Sl mRep z n1 (.slice m.n1.A n1.length m.n1.C)
theorem EndP.mono {z z' : Zc} {e : End} {m : EndM} (hz : z ≤ z') (h : EndP z e m) : EndP z' e m := ⟨Sl.mono hz h.fl, Sl.mono hz h.qu, Sl.mono hz h.pu, Sl.mono hz h.go, Sl.mono hz h.jo, Sl.mono hz h.cq, Sl.mono hz h.kj⟩
theorem WldP.mono {z z' : Zc} {e0 e1 : End} {n0 n1 : List Msg} {m : WM} (hz : z ≤ z') (h : WldP z e0 e1 n0 n1 m) : WldP z' e0 e1 n0 n1 m := ⟨h.E.mono hz, h.N.mono hz, h.e0.mono hz, h.e1.mono hz, Sl.mono hz h.n0, Sl.mono hz h.n1⟩
theorem RdA.wld {z : Zc} {e0 e1 : End} {n0 n1 : List Msg} {m : WM} (hR : WldR z e0 e1 n0 n1 m) : RdA (wldA e0 e1 n0 n1 m) fun z' => z ≤ z' → WldP z' e0 e1 n0 n1 m := fun z' F hh hz hle => by
  obtain ⟨E, N, f0, q0, p0, g0, f1, q1, p1, g1, r0, b0, r1, b1, _⟩ := (RdA.cons RdA.row (.cons RdA.row (.cons RdA.row (.cons RdA.row (.cons RdA.row (.cons RdA.row (.cons RdA.row (.cons RdA.row (.cons RdA.row (.cons RdA.row (.cons RdA.row (.cons (RdA.net hR.n0.ok) (.cons RdA.row (.cons (RdA.net hR.n1.ok) RdA.nil)))))))))))))) z' F hh hz
  have h0 := hR.e0.mono hle
  have h1 := hR.e1.mono hle
  exact ⟨E, N, ⟨⟨_, _, _, rfl, h0.fc, h0.fl, f0⟩, ⟨_, _, _, rfl, h0.qc, h0.qu, q0⟩, ⟨_, _, _, rfl, h0.pc, h0.pu, p0⟩, ⟨_, _, _, rfl, h0.gc, h0.go, g0⟩, h0.jo, h0.cq, h0.kj⟩,
    ⟨⟨_, _, _, rfl, h1.fc, h1.fl, f1⟩, ⟨_, _, _, rfl, h1.qc, h1.qu, q1⟩, ⟨_, _, _, rfl, h1.pc, h1.pu, p1⟩, ⟨_, _, _, rfl, h1.gc, h1.go, g1⟩, h1.jo, h1.cq, h1.kj⟩, ⟨_, _, _, rfl, hR.n0.cap, b0, r0⟩, ⟨_, _, _, rfl, hR.n1.cap, b1, r1⟩⟩
end Go.Proofs.YtnkhjnieidlknaaGreat
