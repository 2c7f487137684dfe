/- The first message that is on its way, by the reference. · What comes is told, by the reference. -/
import Derived.Test.YtpjaidjnamngaaaGreatM17
namespace Go.Proofs.YtpjaidjnamngaaaGreat
set_option linter.unusedVariables false
set_option linter.unusedSimpArgs false
open Go.RowKit
set_option maxRecDepth 100000
set_option maxHeartbeats 1000000
theorem stoV.toRow {P : Program} {x y : Operand} {n : Nat} {d : Option Nat} {s : St} {K : St → Prop} (k j : Nat) {e sz m : Nat} {cs : List SC} {vs : List Value} (hk : look j s.L = some (.cells e cs)) (hv : allV cs = some vs) (hl : vs.length = m * sz) (hm : m ≤ 1000000000) (h : ∀ b, stoV P x y n d (rowSt s k j b e sz m vs) K) : stoV P x y n d s K := fun o h1 h2 => opT.toRow k j hk hv hl hm fun b => h b o h1 h2
theorem netV_one : ∀ {l : List Msg} {ms : List (Option Addr × Nat)} {u : Value}, u ∈ netV l ms → u.oneCell' = true
  | [], [], u, h => by simp [netV] at h
  | [], _ :: _, u, h => by simp [netV] at h
  | _ :: _, [], u, h => by simp [netV] at h
  | m :: l, (a, c) :: ms, u, h => by
    simp only [netV, List.mem_cons] at h
    rcases h with rfl | rfl | h
    · rfl
    · rfl
    · exact netV_one h
theorem bysA_frz {fr : List FR} {s : St} {R : Value → Zc → Asrt → Prop} (k : Nat) {l : List Int} {A : Option Addr} {c : Nat} (hc : l.length ≤ c) (hB : Bys l) (hk : look k s.L = some (.own (bysA l A c))) (h : ∀ z', s.z ≤ z' → By z' l (.slice A l.length c) → FinV fr ⟨s.t, del k s.L, z', s.n⟩ R) (h0 : l = [] → FinV fr ⟨s.t, s.L, s.z, s.n⟩ R) : FinV fr s R := by
  by_cases hl : l = []
  · exact h0 hl
  · unfold bysA at hk
    rw [if_neg hl] at hk
    refine FinV.frzR k hk fun A' c' z' e1 e2 e3 e4 => ?_
    injection e1 with e1 _ e5
    subst e1
    exact h z' e3 (by subst e5; exact By.mk hc hB e4)
theorem l9first0 (c : Cfg) (link : Int) (e0 e1 : End) (n0 n1 : List Msg) (msg : Msg) (rest : List Msg) (m : WM) (z : Zc) (hR : WldR z e0 e1 n0 n1 m) (hn : n0 = msg :: rest) (h30 : n0.length ≤ 1000) :
    Spec Tryz.prog 119 [wldV c link m, .int .i64 0] z (wldA e0 e1 n0 n1 m) fun u z' A' => ∃ m' A k, u = .tuple #[wldV c link m', .agg #[.bool msg.bent, .slice A msg.bytes.length k]] ∧ A' = wldA e0 e1 (if 0 = 0 then rest else n0) (if 0 = 0 then n1 else rest) m' ∧ WldR z' e0 e1 (if 0 = 0 then rest else n0) (if 0 = 0 then n1 else rest) m' ∧ By z' msg.bytes (.slice A msg.bytes.length k) := by
  subst hn
  obtain ⟨E, EC, N, NC, m0, m1, ⟨A0, C0, ms0⟩, ⟨A1, C1, ms1⟩⟩ := m
  have hok := hR.n0.ok
  have hcap := hR.n0.cap
  dsimp only at hok hcap
  cases ms0 with
  | nil => exact hok.elim
  | cons x ms =>
  obtain ⟨a, cb⟩ := x
  obtain ⟨⟨hb1, hb2⟩, hok⟩ := hok
  have hvl := netV_len hok
  have hlr : (msg :: rest).length = rest.length + 1 := rfl
  (refine spec_enterL [10, 11, 20, 21, 22, 23, 30, 31, 32, 33, 40, 41, 50, 51] Tryz.func119 ic119_ok fr119_ok Tryz.ntmps119 rfl ?_; simp only [seval, go_sem, ic119, fr119, zipL])
  refine vsI.atR 11 rfl fun hN => ?_
  have hN := hN (by omega)
  refine vsI.atR 40 rfl fun hA => ?_
  have hA := hA (by simp)
  (refine vsI.frzR 40 rfl rfl (fun A4 c4 z4 hv4 hc4 hz4 hr4 => ?_)); (first | subst hv4 | (injection hv4 with hv_1 hv_2 hv_3; subst hv_1; subst hv_3)); simp only [seval, go_sem]; ((try simp only [seval, go_sem]); repeat ((first | with_reducible refine vsI.id ?_ | with_reducible refine vcI_cond ?_); (try simp only [seval, go_sem])))
  simp only [netV] at hr4
  ((first | refine ⟨⟨by omega, hN⟩, ?_⟩ | refine ⟨hN, ?_⟩); (try simp only [seval, go_sem]))
  (refine ldF.one _ (RdS.cell 11 rfl rfl) ?_; simp only [seval, go_sem]; ((try simp only [seval, go_sem]); repeat ((first | with_reducible refine vsI.id ?_ | with_reducible refine vcI_cond ?_); (try simp only [seval, go_sem]))))
  refine ⟨⟨by simp, hA⟩, ?_⟩
  refine ldF.agg (sz := 2) [.bool msg.bent, .slice a msg.bytes.length cb] rfl (by exact .inl (hr4.sub 0 [.bool msg.bent, .slice a msg.bytes.length cb] (fun i u hu => by rw [Nat.zero_add]; match i, hu with | 0, hu => exact hu | 1, hu => exact hu))) ?_
  simp only [seval, go_sem]
  ((try simp only [seval, go_sem]); repeat ((first | with_reducible refine vsI.id ?_ | with_reducible refine vcI_cond ?_); (try simp only [seval, go_sem])))
  dsimp only at hz4
  have hd : RdAt z4 (cutA A0 C0 1 2) 0 (netV rest ms) := hr4.cut (l := 1) (sz := 2) (c := C0) (by simp [hvl]; omega)
  have hR4 : WldR z4 e0 e1 (msg :: rest) n1 ⟨E, EC, N, NC, m0, m1, ⟨A0, C0, (a, cb) :: ms⟩, ⟨A1, C1, ms1⟩⟩ := ⟨hR.e0.mono hz4, hR.e1.mono hz4, hR.n0, hR.n1⟩
  (with_reducible refine joinV.id ?_; simp only [seval, go_sem])
  ((first | refine ⟨⟨by omega, hN⟩, ?_⟩ | refine ⟨hN, ?_⟩); (try simp only [seval, go_sem]))
  refine And.intro ?_ ?_
  all_goals (try simp only [seval, go_sem])
  all_goals (refine ldF.one _ (RdS.cell 11 rfl rfl) ?_; simp only [seval, go_sem]; ((try simp only [seval, go_sem]); repeat ((first | with_reducible refine vsI.id ?_ | with_reducible refine vcI_cond ?_); (try simp only [seval, go_sem]))))
  all_goals refine ⟨by omega, ?_⟩; ((try simp only [seval, go_sem]); repeat ((first | with_reducible refine vsI.id ?_ | with_reducible refine vcI_cond ?_); (try simp only [seval, go_sem])))
  all_goals by_cases hre : rest = []
  · subst hre
    have hms : ms = [] := by
      cases ms with
      | nil => rfl
      | cons x y => exact hok.elim
    subst hms
    simp only [seval, go_sem]
    (try with_reducible refine appM.toT ?_); (refine appM_zero atyMs (by first | exact .inl ⟨_, _, _, Nat.le_refl _, rfl⟩ | exact .inr ⟨_, _, rfl⟩) rfl ?_); simp only [seval, go_sem]; ((try simp only [seval, go_sem]); repeat ((first | with_reducible refine vsI.id ?_ | with_reducible refine vcI_cond ?_); (try simp only [seval, go_sem])))
    ((first | refine ⟨⟨by omega, hN⟩, ?_⟩ | refine ⟨hN, ?_⟩); (try simp only [seval, go_sem]))
    refine stoV.toRow 45 4 (m := 0) (sz := 2) rfl rfl rfl (by omega) (fun b => ?_)
    simp only [seval, go_sem, rowSt, subV, subC, subE, subL]
    (refine stoV_row 11 rfl rfl rfl rfl rfl rfl rfl (by simp) ?_; simp only [seval, go_sem, putV]; ((try simp only [seval, go_sem]); repeat ((first | with_reducible refine vsI.id ?_ | with_reducible refine vcI_cond ?_); (try simp only [seval, go_sem]))))
    refine FinV.tf (Tf.split 41 46 rfl rfl rfl) ?_
    dsimp only
    refine bysA_frz 46 hb1 hb2 rfl (fun z5 hz5 hby => ?_) (fun h0 => ?_)
    · dsimp only at hz5
      simp only [seval, go_sem]
      (refine FinV.tf (Tf.pack 999 [10, 11, 20, 21, 22, 23, 30, 31, 32, 33, 45, 41, 50, 51] (by simp only [popL, look, del, Nat.reduceEqDiff, reduceCtorEq, if_true, if_false, reduceIte, Nat.succ_ne_self]; exact rfl) (by simp only [look, Nat.reduceEqDiff, reduceCtorEq, if_true, if_false, reduceIte])) ?_); dsimp only
      (((try simp only [seval, go_sem]); repeat ((first | with_reducible refine vsI.id ?_ | with_reducible refine vcI_cond ?_); (try simp only [seval, go_sem]))); refine FinV.own 999 rfl ?_; simp only [finE, finS, gt, look, SV.toV, SC.toV, allV, tupV, List.map_cons, List.map_nil, List.length_cons, List.length_nil, Nat.reduceAdd, Nat.reduceEqDiff, reduceCtorEq, if_true, if_false, reduceIte, Nat.succ_ne_self, true_and, List.getElem?_cons_zero, Nat.zero_add, Nat.add_zero])
      exact ⟨⟨E, EC, N, NC, m0, m1, ⟨some ⟨b, 0, none⟩, 0, []⟩, ⟨A1, C1, ms1⟩⟩, a, cb, rfl, rfl, ⟨hR4.e0.mono hz5, hR4.e1.mono hz5, ⟨trivial, Nat.le_refl _⟩, hR4.n1⟩, hby⟩
    · dsimp only
      (refine FinV.tf (Tf.pack 999 [10, 11, 20, 21, 22, 23, 30, 31, 32, 33, 45, 41, 50, 51] (by simp only [popL, look, del, Nat.reduceEqDiff, reduceCtorEq, if_true, if_false, reduceIte, Nat.succ_ne_self]; exact rfl) (by simp only [look, Nat.reduceEqDiff, reduceCtorEq, if_true, if_false, reduceIte])) ?_); dsimp only
      (((try simp only [seval, go_sem]); repeat ((first | with_reducible refine vsI.id ?_ | with_reducible refine vcI_cond ?_); (try simp only [seval, go_sem]))); refine FinV.own 999 rfl ?_; simp only [finE, finS, gt, look, SV.toV, SC.toV, allV, tupV, List.map_cons, List.map_nil, List.length_cons, List.length_nil, Nat.reduceAdd, Nat.reduceEqDiff, reduceCtorEq, if_true, if_false, reduceIte, Nat.succ_ne_self, true_and, List.getElem?_cons_zero, Nat.zero_add, Nat.add_zero])
      exact ⟨⟨E, EC, N, NC, m0, m1, ⟨some ⟨b, 0, none⟩, 0, []⟩, ⟨A1, C1, ms1⟩⟩, a, cb, rfl, rfl, ⟨hR4.e0, hR4.e1, ⟨trivial, Nat.le_refl _⟩, hR4.n1⟩, by rw [h0]; exact Sl.nil _ _ _⟩
  · have hpos : 0 < rest.length := List.length_pos_iff.2 hre
    try simp only [Nat.add_sub_cancel]
    (try with_reducible refine appM.toT ?_); (refine appM_emptyO 45 atyMs rfl (by first | exact .inl ⟨_, rfl⟩ | exact .inr ⟨_, _, rfl⟩) rfl (hd) (by first | omega | (simp <;> omega)) (fun u hu => netV_one hu) (by omega) (by omega) (fun A5 c5 hc5 => ?_)); simp only [seval, go_sem]; ((try simp only [seval, go_sem]); repeat ((first | with_reducible refine vsI.id ?_ | with_reducible refine vcI_cond ?_); (try simp only [seval, go_sem])))
    ((first | refine ⟨⟨by omega, hN⟩, ?_⟩ | refine ⟨hN, ?_⟩); (try simp only [seval, go_sem]))
    (refine stoV_row 11 rfl rfl rfl rfl rfl rfl rfl (by simp) ?_; simp only [seval, go_sem, putV]; ((try simp only [seval, go_sem]); repeat ((first | with_reducible refine vsI.id ?_ | with_reducible refine vcI_cond ?_); (try simp only [seval, go_sem]))))
    refine FinV.tf (Tf.split 41 46 rfl rfl rfl) ?_
    dsimp only
    refine bysA_frz 46 hb1 hb2 rfl (fun z5 hz5 hby => ?_) (fun h0 => ?_)
    · dsimp only at hz5
      simp only [seval, go_sem]
      (refine FinV.tf (Tf.pack 999 [10, 11, 20, 21, 22, 23, 30, 31, 32, 33, 45, 41, 50, 51] (by simp only [popL, look, del, Nat.reduceEqDiff, reduceCtorEq, if_true, if_false, reduceIte, Nat.succ_ne_self]; exact rfl) (by simp only [look, Nat.reduceEqDiff, reduceCtorEq, if_true, if_false, reduceIte])) ?_); dsimp only
      (((try simp only [seval, go_sem]); repeat ((first | with_reducible refine vsI.id ?_ | with_reducible refine vcI_cond ?_); (try simp only [seval, go_sem]))); refine FinV.own 999 rfl ?_; simp only [finE, finS, gt, look, SV.toV, SC.toV, allV, tupV, List.map_cons, List.map_nil, List.length_cons, List.length_nil, Nat.reduceAdd, Nat.reduceEqDiff, reduceCtorEq, if_true, if_false, reduceIte, Nat.succ_ne_self, true_and, List.getElem?_cons_zero, Nat.zero_add, Nat.add_zero])
      exact ⟨⟨E, EC, N, NC, m0, m1, ⟨A5, c5, ms⟩, ⟨A1, C1, ms1⟩⟩, a, cb, rfl, rfl, ⟨hR4.e0.mono hz5, hR4.e1.mono hz5, ⟨hok, hc5⟩, hR4.n1⟩, hby⟩
    · dsimp only
      (refine FinV.tf (Tf.pack 999 [10, 11, 20, 21, 22, 23, 30, 31, 32, 33, 45, 41, 50, 51] (by simp only [popL, look, del, Nat.reduceEqDiff, reduceCtorEq, if_true, if_false, reduceIte, Nat.succ_ne_self]; exact rfl) (by simp only [look, Nat.reduceEqDiff, reduceCtorEq, if_true, if_false, reduceIte])) ?_); dsimp only
      (((try simp only [seval, go_sem]); repeat ((first | with_reducible refine vsI.id ?_ | with_reducible refine vcI_cond ?_); (try simp only [seval, go_sem]))); refine FinV.own 999 rfl ?_; simp only [finE, finS, gt, look, SV.toV, SC.toV, allV, tupV, List.map_cons, List.map_nil, List.length_cons, List.length_nil, Nat.reduceAdd, Nat.reduceEqDiff, reduceCtorEq, if_true, if_false, reduceIte, Nat.succ_ne_self, true_and, List.getElem?_cons_zero, Nat.zero_add, Nat.add_zero])
      exact ⟨⟨E, EC, N, NC, m0, m1, ⟨A5, c5, ms⟩, ⟨A1, C1, ms1⟩⟩, a, cb, rfl, rfl, ⟨hR4.e0, hR4.e1, ⟨hok, hc5⟩, hR4.n1⟩, by rw [h0]; exact Sl.nil _ _ _⟩
  · subst hre
    have hms : ms = [] := by
      cases ms with
      | nil => rfl
      | cons x y => exact hok.elim
    subst hms
    simp only [seval, go_sem]
    (try with_reducible refine appM.toT ?_); (refine appM_zero atyMs (by first | exact .inl ⟨_, _, _, Nat.le_refl _, rfl⟩ | exact .inr ⟨_, _, rfl⟩) rfl ?_); simp only [seval, go_sem]; ((try simp only [seval, go_sem]); repeat ((first | with_reducible refine vsI.id ?_ | with_reducible refine vcI_cond ?_); (try simp only [seval, go_sem])))
    ((first | refine ⟨⟨by omega, hN⟩, ?_⟩ | refine ⟨hN, ?_⟩); (try simp only [seval, go_sem]))
    refine stoV.toRow 45 4 (m := 0) (sz := 2) rfl rfl rfl (by omega) (fun b => ?_)
    simp only [seval, go_sem, rowSt, subV, subC, subE, subL]
    (refine stoV_row 11 rfl rfl rfl rfl rfl rfl rfl (by simp) ?_; simp only [seval, go_sem, putV]; ((try simp only [seval, go_sem]); repeat ((first | with_reducible refine vsI.id ?_ | with_reducible refine vcI_cond ?_); (try simp only [seval, go_sem]))))
    refine FinV.tf (Tf.split 41 46 rfl rfl rfl) ?_
    dsimp only
    refine bysA_frz 46 hb1 hb2 rfl (fun z5 hz5 hby => ?_) (fun h0 => ?_)
    · dsimp only at hz5
      simp only [seval, go_sem]
      (refine FinV.tf (Tf.pack 999 [10, 11, 20, 21, 22, 23, 30, 31, 32, 33, 45, 41, 50, 51] (by simp only [popL, look, del, Nat.reduceEqDiff, reduceCtorEq, if_true, if_false, reduceIte, Nat.succ_ne_self]; exact rfl) (by simp only [look, Nat.reduceEqDiff, reduceCtorEq, if_true, if_false, reduceIte])) ?_); dsimp only
      (((try simp only [seval, go_sem]); repeat ((first | with_reducible refine vsI.id ?_ | with_reducible refine vcI_cond ?_); (try simp only [seval, go_sem]))); refine FinV.own 999 rfl ?_; simp only [finE, finS, gt, look, SV.toV, SC.toV, allV, tupV, List.map_cons, List.map_nil, List.length_cons, List.length_nil, Nat.reduceAdd, Nat.reduceEqDiff, reduceCtorEq, if_true, if_false, reduceIte, Nat.succ_ne_self, true_and, List.getElem?_cons_zero, Nat.zero_add, Nat.add_zero])
      exact ⟨⟨E, EC, N, NC, m0, m1, ⟨some ⟨b, 0, none⟩, 0, []⟩, ⟨A1, C1, ms1⟩⟩, a, cb, rfl, rfl, ⟨hR4.e0.mono hz5, hR4.e1.mono hz5, ⟨trivial, Nat.le_refl _⟩, hR4.n1⟩, hby⟩
    · dsimp only
      (refine FinV.tf (Tf.pack 999 [10, 11, 20, 21, 22, 23, 30, 31, 32, 33, 45, 41, 50, 51] (by simp only [popL, look, del, Nat.reduceEqDiff, reduceCtorEq, if_true, if_false, reduceIte, Nat.succ_ne_self]; exact rfl) (by simp only [look, Nat.reduceEqDiff, reduceCtorEq, if_true, if_false, reduceIte])) ?_); dsimp only
      (((try simp only [seval, go_sem]); repeat ((first | with_reducible refine vsI.id ?_ | with_reducible refine vcI_cond ?_); (try simp only [seval, go_sem]))); refine FinV.own 999 rfl ?_; simp only [finE, finS, gt, look, SV.toV, SC.toV, allV, tupV, List.map_cons, List.map_nil, List.length_cons, List.length_nil, Nat.reduceAdd, Nat.reduceEqDiff, reduceCtorEq, if_true, if_false, reduceIte, Nat.succ_ne_self, true_and, List.getElem?_cons_zero, Nat.zero_add, Nat.add_zero])
      exact ⟨⟨E, EC, N, NC, m0, m1, ⟨some ⟨b, 0, none⟩, 0, []⟩, ⟨A1, C1, ms1⟩⟩, a, cb, rfl, rfl, ⟨hR4.e0, hR4.e1, ⟨trivial, Nat.le_refl _⟩, hR4.n1⟩, by rw [h0]; exact Sl.nil _ _ _⟩
  · have hpos : 0 < rest.length := List.length_pos_iff.2 hre
    try simp only [Nat.add_sub_cancel]
    (try with_reducible refine appM.toT ?_); (refine appM_emptyO 45 atyMs rfl (by first | exact .inl ⟨_, rfl⟩ | exact .inr ⟨_, _, rfl⟩) rfl (hd) (by first | omega | (simp <;> omega)) (fun u hu => netV_one hu) (by omega) (by omega) (fun A5 c5 hc5 => ?_)); simp only [seval, go_sem]; ((try simp only [seval, go_sem]); repeat ((first | with_reducible refine vsI.id ?_ | with_reducible refine vcI_cond ?_); (try simp only [seval, go_sem])))
    ((first | refine ⟨⟨by omega, hN⟩, ?_⟩ | refine ⟨hN, ?_⟩); (try simp only [seval, go_sem]))
    (refine stoV_row 11 rfl rfl rfl rfl rfl rfl rfl (by simp) ?_; simp only [seval, go_sem, putV]; ((try simp only [seval, go_sem]); repeat ((first | with_reducible refine vsI.id ?_ | with_reducible refine vcI_cond ?_); (try simp only [seval, go_sem]))))
    refine FinV.tf (Tf.split 41 46 rfl rfl rfl) ?_
    dsimp only
    refine bysA_frz 46 hb1 hb2 rfl (fun z5 hz5 hby => ?_) (fun h0 => ?_)
    · dsimp only at hz5
      simp only [seval, go_sem]
      (refine FinV.tf (Tf.pack 999 [10, 11, 20, 21, 22, 23, 30, 31, 32, 33, 45, 41, 50, 51] (by simp only [popL, look, del, Nat.reduceEqDiff, reduceCtorEq, if_true, if_false, reduceIte, Nat.succ_ne_self]; exact rfl) (by simp only [look, Nat.reduceEqDiff, reduceCtorEq, if_true, if_false, reduceIte])) ?_); dsimp only
      (((try simp only [seval, go_sem]); repeat ((first | with_reducible refine vsI.id ?_ | with_reducible refine vcI_cond ?_); (try simp only [seval, go_sem]))); refine FinV.own 999 rfl ?_; simp only [finE, finS, gt, look, SV.toV, SC.toV, allV, tupV, List.map_cons, List.map_nil, List.length_cons, List.length_nil, Nat.reduceAdd, Nat.reduceEqDiff, reduceCtorEq, if_true, if_false, reduceIte, Nat.succ_ne_self, true_and, List.getElem?_cons_zero, Nat.zero_add, Nat.add_zero])
      exact ⟨⟨E, EC, N, NC, m0, m1, ⟨A5, c5, ms⟩, ⟨A1, C1, ms1⟩⟩, a, cb, rfl, rfl, ⟨hR4.e0.mono hz5, hR4.e1.mono hz5, ⟨hok, hc5⟩, hR4.n1⟩, hby⟩
    · dsimp only
      (refine FinV.tf (Tf.pack 999 [10, 11, 20, 21, 22, 23, 30, 31, 32, 33, 45, 41, 50, 51] (by simp only [popL, look, del, Nat.reduceEqDiff, reduceCtorEq, if_true, if_false, reduceIte, Nat.succ_ne_self]; exact rfl) (by simp only [look, Nat.reduceEqDiff, reduceCtorEq, if_true, if_false, reduceIte])) ?_); dsimp only
      (((try simp only [seval, go_sem]); repeat ((first | with_reducible refine vsI.id ?_ | with_reducible refine vcI_cond ?_); (try simp only [seval, go_sem]))); refine FinV.own 999 rfl ?_; simp only [finE, finS, gt, look, SV.toV, SC.toV, allV, tupV, List.map_cons, List.map_nil, List.length_cons, List.length_nil, Nat.reduceAdd, Nat.reduceEqDiff, reduceCtorEq, if_true, if_false, reduceIte, Nat.succ_ne_self, true_and, List.getElem?_cons_zero, Nat.zero_add, Nat.add_zero])
      exact ⟨⟨E, EC, N, NC, m0, m1, ⟨A5, c5, ms⟩, ⟨A1, C1, ms1⟩⟩, a, cb, rfl, rfl, ⟨hR4.e0, hR4.e1, ⟨hok, hc5⟩, hR4.n1⟩, by rw [h0]; exact Sl.nil _ _ _⟩
theorem l9first1 (c : Cfg) (link : Int) (e0 e1 : End) (n0 n1 : List Msg) (msg : Msg) (rest : List Msg) (m : WM) (z : Zc) (hR : WldR z e0 e1 n0 n1 m) (hn : n1 = msg :: rest) (h30 : n1.length ≤ 1000) :
    Spec Tryz.prog 119 [wldV c link m, .int .i64 1] z (wldA e0 e1 n0 n1 m) fun u z' A' => ∃ m' A k, u = .tuple #[wldV c link m', .agg #[.bool msg.bent, .slice A msg.bytes.length k]] ∧ A' = wldA e0 e1 (if 1 = 0 then rest else n0) (if 1 = 0 then n1 else rest) m' ∧ WldR z' e0 e1 (if 1 = 0 then rest else n0) (if 1 = 0 then n1 else rest) m' ∧ By z' msg.bytes (.slice A msg.bytes.length k) := by
  subst hn
  obtain ⟨E, EC, N, NC, m0, m1, ⟨A0, C0, ms0⟩, ⟨A1, C1, ms1⟩⟩ := m
  have hok := hR.n1.ok
  have hcap := hR.n1.cap
  dsimp only at hok hcap
  cases ms1 with
  | nil => exact hok.elim
  | cons x ms =>
  obtain ⟨a, cb⟩ := x
  obtain ⟨⟨hb1, hb2⟩, hok⟩ := hok
  have hvl := netV_len hok
  have hlr : (msg :: rest).length = rest.length + 1 := rfl
  (refine spec_enterL [10, 11, 20, 21, 22, 23, 30, 31, 32, 33, 40, 41, 50, 51] Tryz.func119 ic119_ok fr119_ok Tryz.ntmps119 rfl ?_; simp only [seval, go_sem, ic119, fr119, zipL])
  refine vsI.atR 11 rfl fun hN => ?_
  have hN := hN (by omega)
  refine vsI.atR 50 rfl fun hA => ?_
  have hA := hA (by simp)
  (refine vsI.frzR 50 rfl rfl (fun A4 c4 z4 hv4 hc4 hz4 hr4 => ?_)); (first | subst hv4 | (injection hv4 with hv_1 hv_2 hv_3; subst hv_1; subst hv_3)); simp only [seval, go_sem]; ((try simp only [seval, go_sem]); repeat ((first | with_reducible refine vsI.id ?_ | with_reducible refine vcI_cond ?_); (try simp only [seval, go_sem])))
  simp only [netV] at hr4
  ((first | refine ⟨⟨by omega, hN⟩, ?_⟩ | refine ⟨hN, ?_⟩); (try simp only [seval, go_sem]))
  (refine ldF.one _ (RdS.cell 11 rfl rfl) ?_; simp only [seval, go_sem]; ((try simp only [seval, go_sem]); repeat ((first | with_reducible refine vsI.id ?_ | with_reducible refine vcI_cond ?_); (try simp only [seval, go_sem]))))
  refine ⟨⟨by simp, hA⟩, ?_⟩
  refine ldF.agg (sz := 2) [.bool msg.bent, .slice a msg.bytes.length cb] rfl (by exact .inl (hr4.sub 0 [.bool msg.bent, .slice a msg.bytes.length cb] (fun i u hu => by rw [Nat.zero_add]; match i, hu with | 0, hu => exact hu | 1, hu => exact hu))) ?_
  simp only [seval, go_sem]
  ((try simp only [seval, go_sem]); repeat ((first | with_reducible refine vsI.id ?_ | with_reducible refine vcI_cond ?_); (try simp only [seval, go_sem])))
  dsimp only at hz4
  have hd : RdAt z4 (cutA A1 C1 1 2) 0 (netV rest ms) := hr4.cut (l := 1) (sz := 2) (c := C1) (by simp [hvl]; omega)
  have hR4 : WldR z4 e0 e1 n0 (msg :: rest) ⟨E, EC, N, NC, m0, m1, ⟨A0, C0, ms0⟩, ⟨A1, C1, (a, cb) :: ms⟩⟩ := ⟨hR.e0.mono hz4, hR.e1.mono hz4, hR.n0, hR.n1⟩
  (with_reducible refine joinV.id ?_; simp only [seval, go_sem])
  ((first | refine ⟨⟨by omega, hN⟩, ?_⟩ | refine ⟨hN, ?_⟩); (try simp only [seval, go_sem]))
  refine And.intro ?_ ?_
  all_goals (try simp only [seval, go_sem])
  all_goals (refine ldF.one _ (RdS.cell 11 rfl rfl) ?_; simp only [seval, go_sem]; ((try simp only [seval, go_sem]); repeat ((first | with_reducible refine vsI.id ?_ | with_reducible refine vcI_cond ?_); (try simp only [seval, go_sem]))))
  all_goals refine ⟨by omega, ?_⟩; ((try simp only [seval, go_sem]); repeat ((first | with_reducible refine vsI.id ?_ | with_reducible refine vcI_cond ?_); (try simp only [seval, go_sem])))
  all_goals by_cases hre : rest = []
  · subst hre
    have hms : ms = [] := by
      cases ms with
      | nil => rfl
      | cons x y => exact hok.elim
    subst hms
    simp only [seval, go_sem]
    (try with_reducible refine appM.toT ?_); (refine appM_zero atyMs (by first | exact .inl ⟨_, _, _, Nat.le_refl _, rfl⟩ | exact .inr ⟨_, _, rfl⟩) rfl ?_); simp only [seval, go_sem]; ((try simp only [seval, go_sem]); repeat ((first | with_reducible refine vsI.id ?_ | with_reducible refine vcI_cond ?_); (try simp only [seval, go_sem])))
    ((first | refine ⟨⟨by omega, hN⟩, ?_⟩ | refine ⟨hN, ?_⟩); (try simp only [seval, go_sem]))
    refine stoV.toRow 45 4 (m := 0) (sz := 2) rfl rfl rfl (by omega) (fun b => ?_)
    simp only [seval, go_sem, rowSt, subV, subC, subE, subL]
    (refine stoV_row 11 rfl rfl rfl rfl rfl rfl rfl (by simp) ?_; simp only [seval, go_sem, putV]; ((try simp only [seval, go_sem]); repeat ((first | with_reducible refine vsI.id ?_ | with_reducible refine vcI_cond ?_); (try simp only [seval, go_sem]))))
    refine FinV.tf (Tf.split 51 46 rfl rfl rfl) ?_
    dsimp only
    refine bysA_frz 46 hb1 hb2 rfl (fun z5 hz5 hby => ?_) (fun h0 => ?_)
    · dsimp only at hz5
      simp only [seval, go_sem]
      (refine FinV.tf (Tf.pack 999 [10, 11, 20, 21, 22, 23, 30, 31, 32, 33, 40, 41, 45, 51] (by simp only [popL, look, del, Nat.reduceEqDiff, reduceCtorEq, if_true, if_false, reduceIte, Nat.succ_ne_self]; exact rfl) (by simp only [look, Nat.reduceEqDiff, reduceCtorEq, if_true, if_false, reduceIte])) ?_); dsimp only
      (((try simp only [seval, go_sem]); repeat ((first | with_reducible refine vsI.id ?_ | with_reducible refine vcI_cond ?_); (try simp only [seval, go_sem]))); refine FinV.own 999 rfl ?_; simp only [finE, finS, gt, look, SV.toV, SC.toV, allV, tupV, List.map_cons, List.map_nil, List.length_cons, List.length_nil, Nat.reduceAdd, Nat.reduceEqDiff, reduceCtorEq, if_true, if_false, reduceIte, Nat.succ_ne_self, true_and, List.getElem?_cons_zero, Nat.zero_add, Nat.add_zero])
      exact ⟨⟨E, EC, N, NC, m0, m1, ⟨A0, C0, ms0⟩, ⟨some ⟨b, 0, none⟩, 0, []⟩⟩, a, cb, rfl, rfl, ⟨hR4.e0.mono hz5, hR4.e1.mono hz5, hR4.n0, ⟨trivial, Nat.le_refl _⟩⟩, hby⟩
    · dsimp only
      (refine FinV.tf (Tf.pack 999 [10, 11, 20, 21, 22, 23, 30, 31, 32, 33, 40, 41, 45, 51] (by simp only [popL, look, del, Nat.reduceEqDiff, reduceCtorEq, if_true, if_false, reduceIte, Nat.succ_ne_self]; exact rfl) (by simp only [look, Nat.reduceEqDiff, reduceCtorEq, if_true, if_false, reduceIte])) ?_); dsimp only
      (((try simp only [seval, go_sem]); repeat ((first | with_reducible refine vsI.id ?_ | with_reducible refine vcI_cond ?_); (try simp only [seval, go_sem]))); refine FinV.own 999 rfl ?_; simp only [finE, finS, gt, look, SV.toV, SC.toV, allV, tupV, List.map_cons, List.map_nil, List.length_cons, List.length_nil, Nat.reduceAdd, Nat.reduceEqDiff, reduceCtorEq, if_true, if_false, reduceIte, Nat.succ_ne_self, true_and, List.getElem?_cons_zero, Nat.zero_add, Nat.add_zero])
      exact ⟨⟨E, EC, N, NC, m0, m1, ⟨A0, C0, ms0⟩, ⟨some ⟨b, 0, none⟩, 0, []⟩⟩, a, cb, rfl, rfl, ⟨hR4.e0, hR4.e1, hR4.n0, ⟨trivial, Nat.le_refl _⟩⟩, by rw [h0]; exact Sl.nil _ _ _⟩
  · have hpos : 0 < rest.length := List.length_pos_iff.2 hre
    try simp only [Nat.add_sub_cancel]
    (try with_reducible refine appM.toT ?_); (refine appM_emptyO 45 atyMs rfl (by first | exact .inl ⟨_, rfl⟩ | exact .inr ⟨_, _, rfl⟩) rfl (hd) (by first | omega | (simp <;> omega)) (fun u hu => netV_one hu) (by omega) (by omega) (fun A5 c5 hc5 => ?_)); simp only [seval, go_sem]; ((try simp only [seval, go_sem]); repeat ((first | with_reducible refine vsI.id ?_ | with_reducible refine vcI_cond ?_); (try simp only [seval, go_sem])))
    ((first | refine ⟨⟨by omega, hN⟩, ?_⟩ | refine ⟨hN, ?_⟩); (try simp only [seval, go_sem]))
    (refine stoV_row 11 rfl rfl rfl rfl rfl rfl rfl (by simp) ?_; simp only [seval, go_sem, putV]; ((try simp only [seval, go_sem]); repeat ((first | with_reducible refine vsI.id ?_ | with_reducible refine vcI_cond ?_); (try simp only [seval, go_sem]))))
    refine FinV.tf (Tf.split 51 46 rfl rfl rfl) ?_
    dsimp only
    refine bysA_frz 46 hb1 hb2 rfl (fun z5 hz5 hby => ?_) (fun h0 => ?_)
    · dsimp only at hz5
      simp only [seval, go_sem]
      (refine FinV.tf (Tf.pack 999 [10, 11, 20, 21, 22, 23, 30, 31, 32, 33, 40, 41, 45, 51] (by simp only [popL, look, del, Nat.reduceEqDiff, reduceCtorEq, if_true, if_false, reduceIte, Nat.succ_ne_self]; exact rfl) (by simp only [look, Nat.reduceEqDiff, reduceCtorEq, if_true, if_false, reduceIte])) ?_); dsimp only
      (((try simp only [seval, go_sem]); repeat ((first | with_reducible refine vsI.id ?_ | with_reducible refine vcI_cond ?_); (try simp only [seval, go_sem]))); refine FinV.own 999 rfl ?_; simp only [finE, finS, gt, look, SV.toV, SC.toV, allV, tupV, List.map_cons, List.map_nil, List.length_cons, List.length_nil, Nat.reduceAdd, Nat.reduceEqDiff, reduceCtorEq, if_true, if_false, reduceIte, Nat.succ_ne_self, true_and, List.getElem?_cons_zero, Nat.zero_add, Nat.add_zero])
      exact ⟨⟨E, EC, N, NC, m0, m1, ⟨A0, C0, ms0⟩, ⟨A5, c5, ms⟩⟩, a, cb, rfl, rfl, ⟨hR4.e0.mono hz5, hR4.e1.mono hz5, hR4.n0, ⟨hok, hc5⟩⟩, hby⟩
    · dsimp only
      (refine FinV.tf (Tf.pack 999 [10, 11, 20, 21, 22, 23, 30, 31, 32, 33, 40, 41, 45, 51] (by simp only [popL, look, del, Nat.reduceEqDiff, reduceCtorEq, if_true, if_false, reduceIte, Nat.succ_ne_self]; exact rfl) (by simp only [look, Nat.reduceEqDiff, reduceCtorEq, if_true, if_false, reduceIte])) ?_); dsimp only
      (((try simp only [seval, go_sem]); repeat ((first | with_reducible refine vsI.id ?_ | with_reducible refine vcI_cond ?_); (try simp only [seval, go_sem]))); refine FinV.own 999 rfl ?_; simp only [finE, finS, gt, look, SV.toV, SC.toV, allV, tupV, List.map_cons, List.map_nil, List.length_cons, List.length_nil, Nat.reduceAdd, Nat.reduceEqDiff, reduceCtorEq, if_true, if_false, reduceIte, Nat.succ_ne_self, true_and, List.getElem?_cons_zero, Nat.zero_add, Nat.add_zero])
      exact ⟨⟨E, EC, N, NC, m0, m1, ⟨A0, C0, ms0⟩, ⟨A5, c5, ms⟩⟩, a, cb, rfl, rfl, ⟨hR4.e0, hR4.e1, hR4.n0, ⟨hok, hc5⟩⟩, by rw [h0]; exact Sl.nil _ _ _⟩
  · subst hre
    have hms : ms = [] := by
      cases ms with
      | nil => rfl
      | cons x y => exact hok.elim
    subst hms
    simp only [seval, go_sem]
    (try with_reducible refine appM.toT ?_); (refine appM_zero atyMs (by first | exact .inl ⟨_, _, _, Nat.le_refl _, rfl⟩ | exact .inr ⟨_, _, rfl⟩) rfl ?_); simp only [seval, go_sem]; ((try simp only [seval, go_sem]); repeat ((first | with_reducible refine vsI.id ?_ | with_reducible refine vcI_cond ?_); (try simp only [seval, go_sem])))
    ((first | refine ⟨⟨by omega, hN⟩, ?_⟩ | refine ⟨hN, ?_⟩); (try simp only [seval, go_sem]))
    refine stoV.toRow 45 4 (m := 0) (sz := 2) rfl rfl rfl (by omega) (fun b => ?_)
    simp only [seval, go_sem, rowSt, subV, subC, subE, subL]
    (refine stoV_row 11 rfl rfl rfl rfl rfl rfl rfl (by simp) ?_; simp only [seval, go_sem, putV]; ((try simp only [seval, go_sem]); repeat ((first | with_reducible refine vsI.id ?_ | with_reducible refine vcI_cond ?_); (try simp only [seval, go_sem]))))
    refine FinV.tf (Tf.split 51 46 rfl rfl rfl) ?_
    dsimp only
    refine bysA_frz 46 hb1 hb2 rfl (fun z5 hz5 hby => ?_) (fun h0 => ?_)
    · dsimp only at hz5
      simp only [seval, go_sem]
      (refine FinV.tf (Tf.pack 999 [10, 11, 20, 21, 22, 23, 30, 31, 32, 33, 40, 41, 45, 51] (by simp only [popL, look, del, Nat.reduceEqDiff, reduceCtorEq, if_true, if_false, reduceIte, Nat.succ_ne_self]; exact rfl) (by simp only [look, Nat.reduceEqDiff, reduceCtorEq, if_true, if_false, reduceIte])) ?_); dsimp only
      (((try simp only [seval, go_sem]); repeat ((first | with_reducible refine vsI.id ?_ | with_reducible refine vcI_cond ?_); (try simp only [seval, go_sem]))); refine FinV.own 999 rfl ?_; simp only [finE, finS, gt, look, SV.toV, SC.toV, allV, tupV, List.map_cons, List.map_nil, List.length_cons, List.length_nil, Nat.reduceAdd, Nat.reduceEqDiff, reduceCtorEq, if_true, if_false, reduceIte, Nat.succ_ne_self, true_and, List.getElem?_cons_zero, Nat.zero_add, Nat.add_zero])
      exact ⟨⟨E, EC, N, NC, m0, m1, ⟨A0, C0, ms0⟩, ⟨some ⟨b, 0, none⟩, 0, []⟩⟩, a, cb, rfl, rfl, ⟨hR4.e0.mono hz5, hR4.e1.mono hz5, hR4.n0, ⟨trivial, Nat.le_refl _⟩⟩, hby⟩
    · dsimp only
      (refine FinV.tf (Tf.pack 999 [10, 11, 20, 21, 22, 23, 30, 31, 32, 33, 40, 41, 45, 51] (by simp only [popL, look, del, Nat.reduceEqDiff, reduceCtorEq, if_true, if_false, reduceIte, Nat.succ_ne_self]; exact rfl) (by simp only [look, Nat.reduceEqDiff, reduceCtorEq, if_true, if_false, reduceIte])) ?_); dsimp only
      (((try simp only [seval, go_sem]); repeat ((first | with_reducible refine vsI.id ?_ | with_reducible refine vcI_cond ?_); (try simp only [seval, go_sem]))); refine FinV.own 999 rfl ?_; simp only [finE, finS, gt, look, SV.toV, SC.toV, allV, tupV, List.map_cons, List.map_nil, List.length_cons, List.length_nil, Nat.reduceAdd, Nat.reduceEqDiff, reduceCtorEq, if_true, if_false, reduceIte, Nat.succ_ne_self, true_and, List.getElem?_cons_zero, Nat.zero_add, Nat.add_zero])
      exact ⟨⟨E, EC, N, NC, m0, m1, ⟨A0, C0, ms0⟩, ⟨some ⟨b, 0, none⟩, 0, []⟩⟩, a, cb, rfl, rfl, ⟨hR4.e0, hR4.e1, hR4.n0, ⟨trivial, Nat.le_refl _⟩⟩, by rw [h0]; exact Sl.nil _ _ _⟩
  · have hpos : 0 < rest.length := List.length_pos_iff.2 hre
    try simp only [Nat.add_sub_cancel]
    (try with_reducible refine appM.toT ?_); (refine appM_emptyO 45 atyMs rfl (by first | exact .inl ⟨_, rfl⟩ | exact .inr ⟨_, _, rfl⟩) rfl (hd) (by first | omega | (simp <;> omega)) (fun u hu => netV_one hu) (by omega) (by omega) (fun A5 c5 hc5 => ?_)); simp only [seval, go_sem]; ((try simp only [seval, go_sem]); repeat ((first | with_reducible refine vsI.id ?_ | with_reducible refine vcI_cond ?_); (try simp only [seval, go_sem])))
    ((first | refine ⟨⟨by omega, hN⟩, ?_⟩ | refine ⟨hN, ?_⟩); (try simp only [seval, go_sem]))
    (refine stoV_row 11 rfl rfl rfl rfl rfl rfl rfl (by simp) ?_; simp only [seval, go_sem, putV]; ((try simp only [seval, go_sem]); repeat ((first | with_reducible refine vsI.id ?_ | with_reducible refine vcI_cond ?_); (try simp only [seval, go_sem]))))
    refine FinV.tf (Tf.split 51 46 rfl rfl rfl) ?_
    dsimp only
    refine bysA_frz 46 hb1 hb2 rfl (fun z5 hz5 hby => ?_) (fun h0 => ?_)
    · dsimp only at hz5
      simp only [seval, go_sem]
      (refine FinV.tf (Tf.pack 999 [10, 11, 20, 21, 22, 23, 30, 31, 32, 33, 40, 41, 45, 51] (by simp only [popL, look, del, Nat.reduceEqDiff, reduceCtorEq, if_true, if_false, reduceIte, Nat.succ_ne_self]; exact rfl) (by simp only [look, Nat.reduceEqDiff, reduceCtorEq, if_true, if_false, reduceIte])) ?_); dsimp only
      (((try simp only [seval, go_sem]); repeat ((first | with_reducible refine vsI.id ?_ | with_reducible refine vcI_cond ?_); (try simp only [seval, go_sem]))); refine FinV.own 999 rfl ?_; simp only [finE, finS, gt, look, SV.toV, SC.toV, allV, tupV, List.map_cons, List.map_nil, List.length_cons, List.length_nil, Nat.reduceAdd, Nat.reduceEqDiff, reduceCtorEq, if_true, if_false, reduceIte, Nat.succ_ne_self, true_and, List.getElem?_cons_zero, Nat.zero_add, Nat.add_zero])
      exact ⟨⟨E, EC, N, NC, m0, m1, ⟨A0, C0, ms0⟩, ⟨A5, c5, ms⟩⟩, a, cb, rfl, rfl, ⟨hR4.e0.mono hz5, hR4.e1.mono hz5, hR4.n0, ⟨hok, hc5⟩⟩, hby⟩
    · dsimp only
      (refine FinV.tf (Tf.pack 999 [10, 11, 20, 21, 22, 23, 30, 31, 32, 33, 40, 41, 45, 51] (by simp only [popL, look, del, Nat.reduceEqDiff, reduceCtorEq, if_true, if_false, reduceIte, Nat.succ_ne_self]; exact rfl) (by simp only [look, Nat.reduceEqDiff, reduceCtorEq, if_true, if_false, reduceIte])) ?_); dsimp only
      (((try simp only [seval, go_sem]); repeat ((first | with_reducible refine vsI.id ?_ | with_reducible refine vcI_cond ?_); (try simp only [seval, go_sem]))); refine FinV.own 999 rfl ?_; simp only [finE, finS, gt, look, SV.toV, SC.toV, allV, tupV, List.map_cons, List.map_nil, List.length_cons, List.length_nil, Nat.reduceAdd, Nat.reduceEqDiff, reduceCtorEq, if_true, if_false, reduceIte, Nat.succ_ne_self, true_and, List.getElem?_cons_zero, Nat.zero_add, Nat.add_zero])
      exact ⟨⟨E, EC, N, NC, m0, m1, ⟨A0, C0, ms0⟩, ⟨A5, c5, ms⟩⟩, a, cb, rfl, rfl, ⟨hR4.e0, hR4.e1, hR4.n0, ⟨hok, hc5⟩⟩, by rw [h0]; exact Sl.nil _ _ _⟩
end Go.Proofs.YtpjaidjnamngaaaGreat
namespace Go.Proofs.YtpjaidjnamngaaaGreat
set_option linter.unusedVariables false
set_option linter.unusedSimpArgs false
open Go.RowKit
set_option maxRecDepth 100000
set_option maxHeartbeats 1000000
structure TelS where
  i : Nat
  g : List (List Int)
  A : Option Addr
  C : Nat
  V : List Value
  z : Zc
theorem tell_take {got l : List (List Int)} {i : Nat} {x : List Int} (h : l[i]? = some x) : tell got (l.take (i + 1)) = if (tell got (l.take i)).length < 60 then tell got (l.take i) ++ [x] else tell got (l.take i) := by
  unfold tell
  rw [List.take_add_one, h, List.foldl_append]
  rfl
theorem l9tell0 (c : Cfg) (link : Int) (e0 e1 : End) (n0 n1 : List Msg) (m : WM) (l : List (List Int)) (v : Value) (z : Zc) (hR : WldR z e0 e1 n0 n1 m) (hv : Sl sduRep z l v) (hl : l.length ≤ 1000) (h60 : e0.got.length ≤ 60) :
    Spec Tryz.prog 142 [wldV c link m, .int .i64 0, v] z (wldA e0 e1 n0 n1 m) (WldH c ⟨c, [e0, e1].set 0 { e0 with got := tell e0.got l }, [n0, n1], link⟩) := by
  obtain ⟨A, kk, cs, rfl, hk, he, hr⟩ := hv
  (refine spec_enterL [10, 11, 20, 21, 22, 23, 30, 31, 32, 33, 40, 41, 50, 51] Tryz.func142 ic142_ok fr142_ok Tryz.ntmps142 rfl ?_; simp only [seval, go_sem, ic142, fr142, zipL])
  refine vsI.atR 10 rfl fun hE => ?_
  have hE := hE (by omega)
  ((try simp only [seval, go_sem]); repeat ((first | with_reducible refine vsI.id ?_ | with_reducible refine vcI_cond ?_); (try simp only [seval, go_sem])))
  refine loop_upd (ι := TelS) (n := 2) (fun s => z ≤ s.z ∧ s.i ≤ l.length ∧ s.g = tell e0.got (l.take s.i) ∧ Els sduRep s.z s.g s.V ∧ s.g.length ≤ s.C ∧ s.g.length ≤ 60) (fun s => [(7, .c (.v (.int .i64 s.i)))]) (fun s => [(10, .own (rowA tyE 28 (.slice m.E 2 m.EC) 2 (endsC { e0 with got := s.g } e1 { m.m0 with gA := s.A, gC := s.C } m.m1))), (11, .own (rowA tyN 1 (.slice m.N 2 m.NC) 2 [.slice m.n0.A n0.length m.n0.C, .slice m.n1.A n1.length m.n1.C])),
    (20, .own (rowA tyP 3 (.slice m.m0.fA e0.tx.flight.length m.m0.fC) e0.tx.flight.length m.m0.fV)), (21, .own (rowA tyP 3 (.slice m.m0.qA e0.tx.queue.length m.m0.qC) e0.tx.queue.length m.m0.qV)), (22, .own (rowA tyS 1 (.slice m.m0.pA e0.put.length m.m0.pC) e0.put.length m.m0.pV)),
    (30, .own (rowA tyP 3 (.slice m.m1.fA e1.tx.flight.length m.m1.fC) e1.tx.flight.length m.m1.fV)), (31, .own (rowA tyP 3 (.slice m.m1.qA e1.tx.queue.length m.m1.qC) e1.tx.queue.length m.m1.qV)), (32, .own (rowA tyS 1 (.slice m.m1.pA e1.put.length m.m1.pC) e1.put.length m.m1.pV)), (23, .own (rowA tyS 1 (.slice s.A s.g.length s.C) s.g.length s.V)), (33, .own (rowA tyS 1 (.slice m.m1.gA e1.got.length m.m1.gC) e1.got.length m.m1.gV)),
    (40, .own (rowA tyM 2 (.slice m.n0.A n0.length m.n0.C) n0.length (netV n0 m.n0.ms))), (41, .own (starL (netB n0 m.n0.ms))), (50, .own (rowA tyM 2 (.slice m.n1.A n1.length m.n1.C) n1.length (netV n1 m.n1.ms))), (51, .own (starL (netB n1 m.n1.ms))),
    (0, .cells 73 [.v (.int .i64 c.mode), .v (.int .i64 c.win), .v (.int .i64 c.mps), .v (.int .i64 c.mtu), .v (.int .i64 c.tri), .v (.slice m.E 2 m.EC), .v (.slice m.N 2 m.NC), .v (.int .i64 link)]), (1, .cells 73 [.v (.int .i64 0), .v (.int .i64 0), .v (.int .i64 0), .v (.int .i64 0), .v (.int .i64 0), .v (.slice none 0 0), .v (.slice none 0 0), .v (.int .i64 0)])]) (fun s => s.z) (fun s => l.length - s.i) ⟨0, e0.got, m.m0.gA, m.m0.gC, m.m0.gV, z⟩ ⟨Zc.rfl' _, by simp, by simp [tell], hR.e0.go, hR.e0.gc, h60⟩ (by (simp only [wrI, wrR, anyL, st, List.append_nil, List.nil_append, List.cons_append]); exact rfl) ?_ ?_
  · (refine Le.of ?_ ?_ rfl ?_ ⟨rfl, rfl⟩; rotate_left; (simp only [LeL, look, del, Nat.reduceEqDiff, reduceCtorEq, if_true, if_false, reduceIte, Nat.succ_ne_self, and_true, true_and, and_self]); (first | exact Nat.le_refl _ | decide | (dsimp only; omega)); (simp (disch := omega) only [LeT, updL, st, reduceCtorEq, true_or, or_true, false_or, and_true, true_and, SV.c.injEq, SC.v.injEq, Value.int.injEq, Value.slice.injEq, wrap_in, Int.natCast_add, Int.natCast_one, Int.natCast_zero, Int.cast_ofNat_Int]) <;> (try (repeat' constructor)) <;> (first | rfl | omega))
  · rintro ⟨i, g, gA, gC, gV, z1⟩ ⟨hz1, hi, hgl, hge, hgc, hg60⟩
    dsimp only at *
    ((try simp only [seval, go_sem]); repeat ((first | with_reducible refine vsI.id ?_ | with_reducible refine vcI_cond ?_); (try simp only [seval, go_sem])))
    (with_reducible refine condI.split (fun hg => ?_) (fun hg => ?_) <;> (try simp only [hg]) <;> (try simp only [seval, go_sem]))
    · have hi' : i < l.length := by simp at hg; omega
      obtain ⟨x, hx⟩ : ∃ x, l[i]? = some x := ⟨_, List.getElem?_eq_getElem hi'⟩
      obtain ⟨c1, ⟨v, rfl, hb⟩, hr1⟩ := (he.mono hz1).at (hr.mono hz1) hx
      obtain ⟨A1, c1, rfl, hc1, hB1, hrb⟩ := By.form hb
      have hat : IsAt A := he.isAt hr (by decide) hi'
      ((try simp only [seval, go_sem]); repeat ((first | with_reducible refine vsI.id ?_ | with_reducible refine vcI_cond ?_); (try simp only [seval, go_sem])))
      ((first | refine ⟨⟨by omega, hE⟩, ?_⟩ | refine ⟨hE, ?_⟩); (try simp only [seval, go_sem]))
      (refine ldF.one _ (RdS.cell 10 rfl rfl) ?_; simp only [seval, go_sem]; ((try simp only [seval, go_sem]); repeat ((first | with_reducible refine vsI.id ?_ | with_reducible refine vcI_cond ?_); (try simp only [seval, go_sem]))))
      (with_reducible refine condI.split (fun hg => ?_) (fun hg => ?_) <;> (try simp only [hg]) <;> (try simp only [seval, go_sem]))
      · ((try simp only [seval, go_sem]); repeat ((first | with_reducible refine vsI.id ?_ | with_reducible refine vcI_cond ?_); (try simp only [seval, go_sem])))
        (with_reducible refine joinV.id ?_; simp only [seval, go_sem])
        ((first | refine ⟨⟨by omega, hE⟩, ?_⟩ | refine ⟨hE, ?_⟩); (try simp only [seval, go_sem]))
        (refine ⟨⟨by omega, by omega, hat⟩, ?_⟩; (try simp only [seval, go_sem]))
        (refine ldF.one _ (by first | exact .inl hr1 | exact hr1) ?_; (try simp only [seval, go_sem]))
        refine And.intro ?_ ?_
        all_goals (try simp only [seval, go_sem])
        all_goals (refine ldF.one _ (RdS.cell 10 rfl rfl) ?_; simp only [seval, go_sem]; ((try simp only [seval, go_sem]); repeat ((first | with_reducible refine vsI.id ?_ | with_reducible refine vcI_cond ?_); (try simp only [seval, go_sem]))))
        all_goals (try with_reducible refine appM.toT ?_); (refine appM_newF 23 atyS rfl rfl rfl rfl rfl rfl rfl (by simp [Value.oneCell']) (by omega) (fun A6 c6 hc6 hat6 => ?_)); simp only [seval, go_sem]; ((try simp only [seval, go_sem]); repeat ((first | with_reducible refine vsI.id ?_ | with_reducible refine vcI_cond ?_); (try simp only [seval, go_sem])))
        all_goals ((first | refine ⟨⟨by omega, hE⟩, ?_⟩ | refine ⟨hE, ?_⟩); (try simp only [seval, go_sem]))
        all_goals (refine stoV_row 10 rfl rfl rfl rfl rfl rfl rfl (by rw [endsC_len]; simp) ?_; simp only [seval, go_sem]; ((try simp only [seval, go_sem]); repeat ((first | with_reducible refine vsI.id ?_ | with_reducible refine vcI_cond ?_); (try simp only [seval, go_sem]))))
        all_goals rw [ends_got0 _ _ _ _ (g ++ [x]) _ _ _ (by simp), show g.length + 1 = (g ++ [x]).length by simp]
        all_goals refine ⟨⟨i + 1, g ++ [x], A6, c6, gV ++ [.slice A1 x.length c1], z1⟩, ⟨hz1, by dsimp only; omega, ?_, hge.append (Els.single (d := sduRep) ⟨_, rfl, By.mk hc1 hB1 hrb⟩), by simp; exact hc6, by have := of_decide_eq_true hg; simp; omega⟩, by dsimp only; omega, ?_⟩
        all_goals first
          | (dsimp only; rw [tell_take hx, ← hgl, if_pos (by have := of_decide_eq_true hg; omega)])
          | (refine Le.of ?_ ?_ rfl ?_ ⟨rfl, rfl⟩; rotate_left; (simp only [LeL, look, del, Nat.reduceEqDiff, reduceCtorEq, if_true, if_false, reduceIte, Nat.succ_ne_self, and_true, true_and, and_self]); (first | exact Nat.le_refl _ | decide | (dsimp only; omega)); (simp (disch := omega) only [LeT, updL, st, reduceCtorEq, true_or, or_true, false_or, and_true, true_and, SV.c.injEq, SC.v.injEq, Value.int.injEq, Value.slice.injEq, wrap_in, Int.natCast_add, Int.natCast_one, Int.natCast_zero, Int.cast_ofNat_Int]) <;> (try (repeat' constructor)) <;> (first | rfl | omega))
      · ((try simp only [seval, go_sem]); repeat ((first | with_reducible refine vsI.id ?_ | with_reducible refine vcI_cond ?_); (try simp only [seval, go_sem])))
        refine ⟨⟨i + 1, g, gA, gC, gV, z1⟩, ⟨hz1, by dsimp only; omega, by dsimp only; rw [tell_take hx, ← hgl, if_neg (by have := of_decide_eq_false hg; omega)], hge, hgc, hg60⟩, by dsimp only; omega, ?_⟩
        (refine Le.of ?_ ?_ rfl ?_ ⟨rfl, rfl⟩; rotate_left; (simp only [LeL, look, del, Nat.reduceEqDiff, reduceCtorEq, if_true, if_false, reduceIte, Nat.succ_ne_self, and_true, true_and, and_self]); (first | exact Nat.le_refl _ | decide | (dsimp only; omega)); (simp (disch := omega) only [LeT, updL, st, reduceCtorEq, true_or, or_true, false_or, and_true, true_and, SV.c.injEq, SC.v.injEq, Value.int.injEq, Value.slice.injEq, wrap_in, Int.natCast_add, Int.natCast_one, Int.natCast_zero, Int.cast_ofNat_Int]) <;> (try (repeat' constructor)) <;> (first | rfl | omega))
    · ((try simp only [seval, go_sem]); repeat ((first | with_reducible refine vsI.id ?_ | with_reducible refine vcI_cond ?_); (try simp only [seval, go_sem])))
      (refine FinV.tf (Tf.pack 999 [10, 11, 20, 21, 22, 23, 30, 31, 32, 33, 40, 41, 50, 51] (by simp only [popL, look, del, Nat.reduceEqDiff, reduceCtorEq, if_true, if_false, reduceIte, Nat.succ_ne_self]; exact rfl) (by simp only [look, Nat.reduceEqDiff, reduceCtorEq, if_true, if_false, reduceIte])) ?_); dsimp only
      (((try simp only [seval, go_sem]); repeat ((first | with_reducible refine vsI.id ?_ | with_reducible refine vcI_cond ?_); (try simp only [seval, go_sem]))); refine FinV.own 999 rfl ?_; simp only [finE, finS, gt, look, SV.toV, SC.toV, allV, tupV, List.map_cons, List.map_nil, List.length_cons, List.length_nil, Nat.reduceAdd, Nat.reduceEqDiff, reduceCtorEq, if_true, if_false, reduceIte, Nat.succ_ne_self, true_and, List.getElem?_cons_zero, Nat.zero_add, Nat.add_zero])
      have hil : i = l.length := by simp at hg; omega
      subst hil
      rw [List.take_length] at hgl
      subst hgl
      exact ⟨_, e1, n0, n1, { m with m0 := { m.m0 with gA := gA, gC := gC, gV := gV } }, rfl, rfl, rfl, rfl, rfl, ⟨{ (hR.e0.mono hz1) with go := hge, gc := hgc }, hR.e1.mono hz1, hR.n0, hR.n1⟩⟩
theorem l9tell1 (c : Cfg) (link : Int) (e0 e1 : End) (n0 n1 : List Msg) (m : WM) (l : List (List Int)) (v : Value) (z : Zc) (hR : WldR z e0 e1 n0 n1 m) (hv : Sl sduRep z l v) (hl : l.length ≤ 1000) (h60 : e1.got.length ≤ 60) :
    Spec Tryz.prog 142 [wldV c link m, .int .i64 1, v] z (wldA e0 e1 n0 n1 m) (WldH c ⟨c, [e0, e1].set 1 { e1 with got := tell e1.got l }, [n0, n1], link⟩) := by
  obtain ⟨A, kk, cs, rfl, hk, he, hr⟩ := hv
  (refine spec_enterL [10, 11, 20, 21, 22, 23, 30, 31, 32, 33, 40, 41, 50, 51] Tryz.func142 ic142_ok fr142_ok Tryz.ntmps142 rfl ?_; simp only [seval, go_sem, ic142, fr142, zipL])
  refine vsI.atR 10 rfl fun hE => ?_
  have hE := hE (by omega)
  ((try simp only [seval, go_sem]); repeat ((first | with_reducible refine vsI.id ?_ | with_reducible refine vcI_cond ?_); (try simp only [seval, go_sem])))
  refine loop_upd (ι := TelS) (n := 2) (fun s => z ≤ s.z ∧ s.i ≤ l.length ∧ s.g = tell e1.got (l.take s.i) ∧ Els sduRep s.z s.g s.V ∧ s.g.length ≤ s.C ∧ s.g.length ≤ 60) (fun s => [(7, .c (.v (.int .i64 s.i)))]) (fun s => [(10, .own (rowA tyE 28 (.slice m.E 2 m.EC) 2 (endsC e0 { e1 with got := s.g } m.m0 { m.m1 with gA := s.A, gC := s.C }))), (11, .own (rowA tyN 1 (.slice m.N 2 m.NC) 2 [.slice m.n0.A n0.length m.n0.C, .slice m.n1.A n1.length m.n1.C])),
    (20, .own (rowA tyP 3 (.slice m.m0.fA e0.tx.flight.length m.m0.fC) e0.tx.flight.length m.m0.fV)), (21, .own (rowA tyP 3 (.slice m.m0.qA e0.tx.queue.length m.m0.qC) e0.tx.queue.length m.m0.qV)), (22, .own (rowA tyS 1 (.slice m.m0.pA e0.put.length m.m0.pC) e0.put.length m.m0.pV)),
    (30, .own (rowA tyP 3 (.slice m.m1.fA e1.tx.flight.length m.m1.fC) e1.tx.flight.length m.m1.fV)), (31, .own (rowA tyP 3 (.slice m.m1.qA e1.tx.queue.length m.m1.qC) e1.tx.queue.length m.m1.qV)), (32, .own (rowA tyS 1 (.slice m.m1.pA e1.put.length m.m1.pC) e1.put.length m.m1.pV)), (33, .own (rowA tyS 1 (.slice s.A s.g.length s.C) s.g.length s.V)), (23, .own (rowA tyS 1 (.slice m.m0.gA e0.got.length m.m0.gC) e0.got.length m.m0.gV)),
    (40, .own (rowA tyM 2 (.slice m.n0.A n0.length m.n0.C) n0.length (netV n0 m.n0.ms))), (41, .own (starL (netB n0 m.n0.ms))), (50, .own (rowA tyM 2 (.slice m.n1.A n1.length m.n1.C) n1.length (netV n1 m.n1.ms))), (51, .own (starL (netB n1 m.n1.ms))),
    (0, .cells 73 [.v (.int .i64 c.mode), .v (.int .i64 c.win), .v (.int .i64 c.mps), .v (.int .i64 c.mtu), .v (.int .i64 c.tri), .v (.slice m.E 2 m.EC), .v (.slice m.N 2 m.NC), .v (.int .i64 link)]), (1, .cells 73 [.v (.int .i64 0), .v (.int .i64 0), .v (.int .i64 0), .v (.int .i64 0), .v (.int .i64 0), .v (.slice none 0 0), .v (.slice none 0 0), .v (.int .i64 0)])]) (fun s => s.z) (fun s => l.length - s.i) ⟨0, e1.got, m.m1.gA, m.m1.gC, m.m1.gV, z⟩ ⟨Zc.rfl' _, by simp, by simp [tell], hR.e1.go, hR.e1.gc, h60⟩ (by (simp only [wrI, wrR, anyL, st, List.append_nil, List.nil_append, List.cons_append]); exact rfl) ?_ ?_
  · (refine Le.of ?_ ?_ rfl ?_ ⟨rfl, rfl⟩; rotate_left; (simp only [LeL, look, del, Nat.reduceEqDiff, reduceCtorEq, if_true, if_false, reduceIte, Nat.succ_ne_self, and_true, true_and, and_self]); (first | exact Nat.le_refl _ | decide | (dsimp only; omega)); (simp (disch := omega) only [LeT, updL, st, reduceCtorEq, true_or, or_true, false_or, and_true, true_and, SV.c.injEq, SC.v.injEq, Value.int.injEq, Value.slice.injEq, wrap_in, Int.natCast_add, Int.natCast_one, Int.natCast_zero, Int.cast_ofNat_Int]) <;> (try (repeat' constructor)) <;> (first | rfl | omega))
  · rintro ⟨i, g, gA, gC, gV, z1⟩ ⟨hz1, hi, hgl, hge, hgc, hg60⟩
    dsimp only at *
    ((try simp only [seval, go_sem]); repeat ((first | with_reducible refine vsI.id ?_ | with_reducible refine vcI_cond ?_); (try simp only [seval, go_sem])))
    (with_reducible refine condI.split (fun hg => ?_) (fun hg => ?_) <;> (try simp only [hg]) <;> (try simp only [seval, go_sem]))
    · have hi' : i < l.length := by simp at hg; omega
      obtain ⟨x, hx⟩ : ∃ x, l[i]? = some x := ⟨_, List.getElem?_eq_getElem hi'⟩
      obtain ⟨c1, ⟨v, rfl, hb⟩, hr1⟩ := (he.mono hz1).at (hr.mono hz1) hx
      obtain ⟨A1, c1, rfl, hc1, hB1, hrb⟩ := By.form hb
      have hat : IsAt A := he.isAt hr (by decide) hi'
      ((try simp only [seval, go_sem]); repeat ((first | with_reducible refine vsI.id ?_ | with_reducible refine vcI_cond ?_); (try simp only [seval, go_sem])))
      ((first | refine ⟨⟨by omega, hE⟩, ?_⟩ | refine ⟨hE, ?_⟩); (try simp only [seval, go_sem]))
      (refine ldF.one _ (RdS.cell 10 rfl rfl) ?_; simp only [seval, go_sem]; ((try simp only [seval, go_sem]); repeat ((first | with_reducible refine vsI.id ?_ | with_reducible refine vcI_cond ?_); (try simp only [seval, go_sem]))))
      (with_reducible refine condI.split (fun hg => ?_) (fun hg => ?_) <;> (try simp only [hg]) <;> (try simp only [seval, go_sem]))
      · ((try simp only [seval, go_sem]); repeat ((first | with_reducible refine vsI.id ?_ | with_reducible refine vcI_cond ?_); (try simp only [seval, go_sem])))
        (with_reducible refine joinV.id ?_; simp only [seval, go_sem])
        ((first | refine ⟨⟨by omega, hE⟩, ?_⟩ | refine ⟨hE, ?_⟩); (try simp only [seval, go_sem]))
        (refine ⟨⟨by omega, by omega, hat⟩, ?_⟩; (try simp only [seval, go_sem]))
        (refine ldF.one _ (by first | exact .inl hr1 | exact hr1) ?_; (try simp only [seval, go_sem]))
        refine And.intro ?_ ?_
        all_goals (try simp only [seval, go_sem])
        all_goals (refine ldF.one _ (RdS.cell 10 rfl rfl) ?_; simp only [seval, go_sem]; ((try simp only [seval, go_sem]); repeat ((first | with_reducible refine vsI.id ?_ | with_reducible refine vcI_cond ?_); (try simp only [seval, go_sem]))))
        all_goals (try with_reducible refine appM.toT ?_); (refine appM_newF 33 atyS rfl rfl rfl rfl rfl rfl rfl (by simp [Value.oneCell']) (by omega) (fun A6 c6 hc6 hat6 => ?_)); simp only [seval, go_sem]; ((try simp only [seval, go_sem]); repeat ((first | with_reducible refine vsI.id ?_ | with_reducible refine vcI_cond ?_); (try simp only [seval, go_sem])))
        all_goals ((first | refine ⟨⟨by omega, hE⟩, ?_⟩ | refine ⟨hE, ?_⟩); (try simp only [seval, go_sem]))
        all_goals (refine stoV_row 10 rfl rfl rfl rfl rfl rfl rfl (by rw [endsC_len]; simp) ?_; simp only [seval, go_sem]; ((try simp only [seval, go_sem]); repeat ((first | with_reducible refine vsI.id ?_ | with_reducible refine vcI_cond ?_); (try simp only [seval, go_sem]))))
        all_goals rw [ends_got1 _ _ _ _ (g ++ [x]) _ _ _ (by simp), show g.length + 1 = (g ++ [x]).length by simp]
        all_goals refine ⟨⟨i + 1, g ++ [x], A6, c6, gV ++ [.slice A1 x.length c1], z1⟩, ⟨hz1, by dsimp only; omega, ?_, hge.append (Els.single (d := sduRep) ⟨_, rfl, By.mk hc1 hB1 hrb⟩), by simp; exact hc6, by have := of_decide_eq_true hg; simp; omega⟩, by dsimp only; omega, ?_⟩
        all_goals first
          | (dsimp only; rw [tell_take hx, ← hgl, if_pos (by have := of_decide_eq_true hg; omega)])
          | (refine Le.of ?_ ?_ rfl ?_ ⟨rfl, rfl⟩; rotate_left; (simp only [LeL, look, del, Nat.reduceEqDiff, reduceCtorEq, if_true, if_false, reduceIte, Nat.succ_ne_self, and_true, true_and, and_self]); (first | exact Nat.le_refl _ | decide | (dsimp only; omega)); (simp (disch := omega) only [LeT, updL, st, reduceCtorEq, true_or, or_true, false_or, and_true, true_and, SV.c.injEq, SC.v.injEq, Value.int.injEq, Value.slice.injEq, wrap_in, Int.natCast_add, Int.natCast_one, Int.natCast_zero, Int.cast_ofNat_Int]) <;> (try (repeat' constructor)) <;> (first | rfl | omega))
      · ((try simp only [seval, go_sem]); repeat ((first | with_reducible refine vsI.id ?_ | with_reducible refine vcI_cond ?_); (try simp only [seval, go_sem])))
        refine ⟨⟨i + 1, g, gA, gC, gV, z1⟩, ⟨hz1, by dsimp only; omega, by dsimp only; rw [tell_take hx, ← hgl, if_neg (by have := of_decide_eq_false hg; omega)], hge, hgc, hg60⟩, by dsimp only; omega, ?_⟩
        (refine Le.of ?_ ?_ rfl ?_ ⟨rfl, rfl⟩; rotate_left; (simp only [LeL, look, del, Nat.reduceEqDiff, reduceCtorEq, if_true, if_false, reduceIte, Nat.succ_ne_self, and_true, true_and, and_self]); (first | exact Nat.le_refl _ | decide | (dsimp only; omega)); (simp (disch := omega) only [LeT, updL, st, reduceCtorEq, true_or, or_true, false_or, and_true, true_and, SV.c.injEq, SC.v.injEq, Value.int.injEq, Value.slice.injEq, wrap_in, Int.natCast_add, Int.natCast_one, Int.natCast_zero, Int.cast_ofNat_Int]) <;> (try (repeat' constructor)) <;> (first | rfl | omega))
    · ((try simp only [seval, go_sem]); repeat ((first | with_reducible refine vsI.id ?_ | with_reducible refine vcI_cond ?_); (try simp only [seval, go_sem])))
      (refine FinV.tf (Tf.pack 999 [10, 11, 20, 21, 22, 23, 30, 31, 32, 33, 40, 41, 50, 51] (by simp only [popL, look, del, Nat.reduceEqDiff, reduceCtorEq, if_true, if_false, reduceIte, Nat.succ_ne_self]; exact rfl) (by simp only [look, Nat.reduceEqDiff, reduceCtorEq, if_true, if_false, reduceIte])) ?_); dsimp only
      (((try simp only [seval, go_sem]); repeat ((first | with_reducible refine vsI.id ?_ | with_reducible refine vcI_cond ?_); (try simp only [seval, go_sem]))); refine FinV.own 999 rfl ?_; simp only [finE, finS, gt, look, SV.toV, SC.toV, allV, tupV, List.map_cons, List.map_nil, List.length_cons, List.length_nil, Nat.reduceAdd, Nat.reduceEqDiff, reduceCtorEq, if_true, if_false, reduceIte, Nat.succ_ne_self, true_and, List.getElem?_cons_zero, Nat.zero_add, Nat.add_zero])
      have hil : i = l.length := by simp at hg; omega
      subst hil
      rw [List.take_length] at hgl
      subst hgl
      exact ⟨e0, _, n0, n1, { m with m1 := { m.m1 with gA := gA, gC := gC, gV := gV } }, rfl, rfl, rfl, rfl, rfl, ⟨hR.e0.mono hz1, { (hR.e1.mono hz1) with go := hge, gc := hgc }, hR.n0, hR.n1⟩⟩
end Go.Proofs.YtpjaidjnamngaaaGreat
