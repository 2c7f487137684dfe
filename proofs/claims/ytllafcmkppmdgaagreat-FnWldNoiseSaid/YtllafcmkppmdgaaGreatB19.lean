/- What happens to two ends, by the program: a frame is bent. · What happens to two ends that use numbers, by the program. · Two ends are ok, by the program. · Two ends copied, by the program. · Two ends that begin, by the program. · Two ends over a link, by the program: several steps, and one, on two ends that stay. · One takes a message for credits, by the program's world. -/
import Derived.Test.YtllafcmkppmdgaaGreatB18
import Derived.Test.YtllafcmkppmdgaaGreatB15
import Derived.Test.YtllafcmkppmdgaaGreatB6
import Derived.Test.YtllafcmkppmdgaaGreatB17
import Derived.Test.YtllafcmkppmdgaaGreatB13
import Derived.Test.YtllafcmkppmdgaaGreatB16
import Derived.Test.YtllafcmkppmdgaaGreatB4
import Derived.Test.YtllafcmkppmdgaaGreatB14
import Derived.Test.YtllafcmkppmdgaaGreatB11
namespace Go.Proofs.YtllafcmkppmdgaaGreat
open Go.RowKit
set_option linter.unusedVariables false
set_option linter.unusedSimpArgs false
set_option maxRecDepth 100000
set_option maxHeartbeats 2000000
theorem step_b0 (b : Nat) (c : Cfg) (link : Int) (e0 e1 : End) (n0 n1 : List Msg) (msg : Msg) (rest : List Msg) (m : WM) (ev : Evt) (v : Value) (z : Zc) (hv : By z ev.data v) (hR : WldB z e0 e1 n0 n1 m) (hN : NetI n0) (hn : n0 = msg :: rest) (hw : ev.who = 0) (hk : ev.kind = 9) :
  Spec Tryz.prog 66 [.pointer (some ⟨b, 0, none⟩), vEvt ev v] z (wldP b c link e0 e1 n0 n1 m) fun _ z' A' => WldQ c ⟨c, [e0, e1], [n0, n1].set 0 (bendM msg ev.at_ ev.v :: rest), link⟩ b z' A' := by
 obtain ⟨Av, kv, rfl, hkv, hBv, hrv⟩ := hv.form
 subst hn
 obtain ⟨E, EC, N, NC, m0, m1, ⟨A0, C0, ms0⟩, ⟨A1, C1, ms1⟩⟩ := m
 have hok := hR.n0.ok
 have hcap := hR.n0.cap
 dsimp only at hok hcap
 obtain ⟨bent, bytes⟩ := msg
 have h15 : bytes.length ≤ 15 := hN.2 ⟨bent, bytes⟩ (by simp)
 cases ms0 with
 | nil => exact hok.elim
 | cons x ms =>
 obtain ⟨a, cb⟩ := x
 obtain ⟨⟨hb1, hb2⟩, hok2⟩ := hok
 dsimp only at hb1 hb2
 have hs : decide (((rest.length + 1 : Nat) : Int) > 0) = true := decide_eq_true (by omega)
 have w1 : IntKind.i64.wrap ((bytes.length : Int) - 1) = (bytes.length : Int) - 1 := wrap_in (by omega) (by omega)
 obtain ⟨kind, who, at_, vv, data⟩ := ev
 dsimp only at *
 subst hw
 subst hk
 by_cases hP : bent = false ∧ (0 ≤ at_ ∧ at_ < bytes.length) ∧ 1 ≤ vv ∧ vv ≤ 255
 ·obtain ⟨rfl, hat, hvv⟩ := hP
  obtain ⟨i, rfl⟩ := Int.eq_ofNat_of_zero_le hat.1
  have hi : i < bytes.length := by omega
  have hbe : bysA bytes a cb = rowA tyB 1 (.slice a bytes.length cb) bytes.length (bc bytes) := by unfold bysA; rw [if_neg (List.ne_nil_of_length_pos (by omega))]
  have i1 : inB (i : Int) 0 ((bytes.length : Int) - 1) = true := inB_iff.2 ⟨by omega, by omega⟩
  have i2 : inB vv 1 255 = true := inB_iff.2 hvv
  refine eQ kyI k66 ?_
  refine vsI.atR 11 rfl fun hN => ?_
  have hN := hN (by omega)
  refine vsI.atR 40 rfl fun hA2 => ?_
  have hA2 := hA2 (by simp)
  refine vsI.tf (Tf.split 41 46 rfl rfl rfl) ?_
  dsimp only
  simp only [hbe]
  refine vsI.atR 46 rfl fun hA3 => ?_
  have hA3 := hA3 (by omega)
  refine gO ?_
  refine tT ?_; refine callP (in_i 0 0 1 z) rfl rfl ?_; rintro _ _ - ⟨rfl, rfl⟩; refine gO ?_
  simp only [seval, go_sem, show inB 0 0 1 = true from rfl, show inB 1 0 1 = true from rfl]
  refine gO ?_
  ((first | refine ⟨⟨by omega, hN⟩, ?_⟩ | refine ⟨hN, ?_⟩); (try simp only [seval, go_sem]))
  refine gO ?_
  (refine ldF.one _ (RdS.cell 11 rfl rfl) ?_; refine gO ?_)
  repeat (simp only [seval, go_sem, hs]; refine gO ?_)
  (refine ldF.one _ (RdS.cell 11 rfl rfl) ?_; refine gO ?_)
  refine ⟨⟨by simp, hA2⟩, ?_⟩
  refine gO ?_
  (refine ldF.one _ (RdS.cell 40 rfl rfl) ?_; refine gO ?_)
  try simp only [w1]
  refine tT ?_; refine callP (in_i (i : Int) 0 ((bytes.length : Int) - 1) z) rfl rfl ?_; rintro _ _ - ⟨rfl, rfl⟩; refine gO ?_
  simp only [i1]
  refine gO ?_
  refine tT ?_; refine callP (in_i vv 1 255 z) rfl rfl ?_; rintro _ _ - ⟨rfl, rfl⟩; refine gO ?_
  simp only [i2]
  refine gO ?_
  (refine ldF.one _ (RdS.cell 40 rfl rfl) ?_; refine gO ?_)
  (refine ldF.one _ (RdS.cell 40 rfl rfl) ?_; refine gO ?_)
  refine ⟨⟨by omega, by omega, hA3⟩, ?_⟩
  (try simp only [seval, go_sem])
  simp only [Nat.mul_one]
  refine ldF.one _ (RdS.cell 46 rfl (bc_get hi)) ?_
  refine gO ?_
  refine ⟨⟨by omega, by omega, hA3⟩, ?_⟩
  (try simp only [seval, go_sem])
  simp only [Nat.mul_one]
  rw [bend_bits hb2 hi hvv]
  refine stoV_row 46 rfl rfl rfl rfl rfl rfl rfl (by simp only [bc, List.length_map, List.length_singleton]; omega) ?_
  rw [bc_set hi]
  refine gO ?_
  refine stoV_row 40 rfl rfl rfl rfl rfl rfl rfl (by simp [netV]) ?_
  simp only [seval, go_sem, putV]
  refine gO ?_
  (refine FinV.pk 97 [46, 41] ?_); dsimp only
  refine FinV.tf (Tf.own 97 rfl rfl (fun w F h => starL_tie h)) ?_
  dsimp only
  (refine FinV.give 1000 0 2005 2000 rfl rfl rfl ?_); simp only [seval, go_sem, giveSt, subV, subC, subE, subL]
  (refine FinV.pk 999 [1000, 10, 11, 22, 23, 32, 33, 40, 97, 50, 51] ?_); dsimp only
  refine fP ?_
  have hbm : bendM ⟨false, bytes⟩ (i : Int) vv = ⟨true, bytes.set i (((bytes.getD i 0).toNat ^^^ vv.toNat : Nat) : Int)⟩ := by unfold bendM; rw [if_pos ⟨by omega, by exact hat.2, hvv.1, hvv.2, rfl⟩]; rfl
  rw [hbm]
  have hbe' : bysA (bytes.set i (((bytes.getD i 0).toNat ^^^ vv.toNat : Nat) : Int)) a cb = rowA tyB 1 (.slice a bytes.length cb) bytes.length (bc (bytes.set i (((bytes.getD i 0).toNat ^^^ vv.toNat : Nat) : Int))) := by
   unfold bysA
   rw [if_neg (List.ne_nil_of_length_pos (by rw [List.length_set]; omega)), List.length_set]
  refine ⟨e0, e1, _, _, ⟨E, EC, N, NC, m0, m1, ⟨A0, C0, (a, cb) :: ms⟩, ⟨A1, C1, ms1⟩⟩, link, rfl, ?_, ?_⟩
  ·simp only [wldP, wldL, netB, netV, hbe', List.length_set]
   rfl
  ·have hbx := bend_bys hb2 hi hvv
   exact ⟨hR.e0, hR.e1, ⟨⟨⟨by rw [List.length_set]; exact hb1, hbx⟩, hok2⟩, hcap⟩, hR.n1⟩
 ·have hbm : bendM ⟨bent, bytes⟩ at_ vv = ⟨bent, bytes⟩ := by
   unfold bendM
   rw [if_neg (fun h => hP ⟨h.2.2.2.2, ⟨h.1, h.2.1⟩, h.2.2.1, h.2.2.2.1⟩)]
  rw [hbm]
  refine eQ kyI k66 ?_
  refine vsI.atR 11 rfl fun hN => ?_
  have hN := hN (by omega)
  refine vsI.atR 40 rfl fun hA2 => ?_
  have hA2 := hA2 (by simp)
  refine gO ?_
  refine tT ?_; refine callP (in_i 0 0 1 z) rfl rfl ?_; rintro _ _ - ⟨rfl, rfl⟩; refine gO ?_
  simp only [seval, go_sem, show inB 0 0 1 = true from rfl, show inB 1 0 1 = true from rfl]
  refine gO ?_
  ((first | refine ⟨⟨by omega, hN⟩, ?_⟩ | refine ⟨hN, ?_⟩); (try simp only [seval, go_sem]))
  refine gO ?_
  (refine ldF.one _ (RdS.cell 11 rfl rfl) ?_; refine gO ?_)
  repeat (simp only [seval, go_sem, hs]; refine gO ?_)
  (refine ldF.one _ (RdS.cell 11 rfl rfl) ?_; refine gO ?_)
  refine ⟨⟨by simp, hA2⟩, ?_⟩
  refine gO ?_
  (refine ldF.one _ (RdS.cell 40 rfl rfl) ?_; refine gO ?_)
  try simp only [w1]
  refine tT ?_; refine callP (in_i at_ 0 ((bytes.length : Int) - 1) z) rfl rfl ?_; rintro _ _ - ⟨rfl, rfl⟩; refine gO ?_
  cases i1 : inB at_ 0 ((bytes.length : Int) - 1)
  ·refine gO ?_
   refine wF5 ?_
   exact WldQ.mk hR
  ·refine gO ?_
   refine tT ?_; refine callP (in_i vv 1 255 z) rfl rfl ?_; rintro _ _ - ⟨rfl, rfl⟩; refine gO ?_
   cases i2 : inB vv 1 255
   ·refine gO ?_
    refine wF5 ?_
    exact WldQ.mk hR
   ·refine gO ?_
    (refine ldF.one _ (RdS.cell 40 rfl rfl) ?_; refine gO ?_)
    cases bent
    ·exfalso
     rw [inB_iff] at i1 i2
     exact hP ⟨rfl, ⟨i1.1, by omega⟩, i2⟩
    ·refine gO ?_
     refine wF5 ?_
     exact WldQ.mk hR
theorem step_b1 (b : Nat) (c : Cfg) (link : Int) (e0 e1 : End) (n0 n1 : List Msg) (msg : Msg) (rest : List Msg) (m : WM) (ev : Evt) (v : Value) (z : Zc) (hv : By z ev.data v) (hR : WldB z e0 e1 n0 n1 m) (hN : NetI n1) (hn : n1 = msg :: rest) (hw : ev.who = 1) (hk : ev.kind = 9) :
  Spec Tryz.prog 66 [.pointer (some ⟨b, 0, none⟩), vEvt ev v] z (wldP b c link e0 e1 n0 n1 m) fun _ z' A' => WldQ c ⟨c, [e0, e1], [n0, n1].set 1 (bendM msg ev.at_ ev.v :: rest), link⟩ b z' A' := by
 obtain ⟨Av, kv, rfl, hkv, hBv, hrv⟩ := hv.form
 subst hn
 obtain ⟨E, EC, N, NC, m0, m1, ⟨A0, C0, ms0⟩, ⟨A1, C1, ms1⟩⟩ := m
 have hok := hR.n1.ok
 have hcap := hR.n1.cap
 dsimp only at hok hcap
 obtain ⟨bent, bytes⟩ := msg
 have h15 : bytes.length ≤ 15 := hN.2 ⟨bent, bytes⟩ (by simp)
 cases ms1 with
 | nil => exact hok.elim
 | cons x ms =>
 obtain ⟨a, cb⟩ := x
 obtain ⟨⟨hb1, hb2⟩, hok2⟩ := hok
 dsimp only at hb1 hb2
 have hs : decide (((rest.length + 1 : Nat) : Int) > 0) = true := decide_eq_true (by omega)
 have w1 : IntKind.i64.wrap ((bytes.length : Int) - 1) = (bytes.length : Int) - 1 := wrap_in (by omega) (by omega)
 obtain ⟨kind, who, at_, vv, data⟩ := ev
 dsimp only at *
 subst hw
 subst hk
 by_cases hP : bent = false ∧ (0 ≤ at_ ∧ at_ < bytes.length) ∧ 1 ≤ vv ∧ vv ≤ 255
 ·obtain ⟨rfl, hat, hvv⟩ := hP
  obtain ⟨i, rfl⟩ := Int.eq_ofNat_of_zero_le hat.1
  have hi : i < bytes.length := by omega
  have hbe : bysA bytes a cb = rowA tyB 1 (.slice a bytes.length cb) bytes.length (bc bytes) := by unfold bysA; rw [if_neg (List.ne_nil_of_length_pos (by omega))]
  have i1 : inB (i : Int) 0 ((bytes.length : Int) - 1) = true := inB_iff.2 ⟨by omega, by omega⟩
  have i2 : inB vv 1 255 = true := inB_iff.2 hvv
  refine eQ kyI k66 ?_
  refine vsI.atR 11 rfl fun hN => ?_
  have hN := hN (by omega)
  refine vsI.atR 50 rfl fun hA2 => ?_
  have hA2 := hA2 (by simp)
  refine vsI.tf (Tf.split 51 46 rfl rfl rfl) ?_
  dsimp only
  simp only [hbe]
  refine vsI.atR 46 rfl fun hA3 => ?_
  have hA3 := hA3 (by omega)
  refine gO ?_
  refine tT ?_; refine callP (in_i 1 0 1 z) rfl rfl ?_; rintro _ _ - ⟨rfl, rfl⟩; refine gO ?_
  simp only [seval, go_sem, show inB 0 0 1 = true from rfl, show inB 1 0 1 = true from rfl]
  refine gO ?_
  ((first | refine ⟨⟨by omega, hN⟩, ?_⟩ | refine ⟨hN, ?_⟩); (try simp only [seval, go_sem]))
  refine gO ?_
  (refine ldF.one _ (RdS.cell 11 rfl rfl) ?_; refine gO ?_)
  repeat (simp only [seval, go_sem, hs]; refine gO ?_)
  (refine ldF.one _ (RdS.cell 11 rfl rfl) ?_; refine gO ?_)
  refine ⟨⟨by simp, hA2⟩, ?_⟩
  refine gO ?_
  (refine ldF.one _ (RdS.cell 50 rfl rfl) ?_; refine gO ?_)
  try simp only [w1]
  refine tT ?_; refine callP (in_i (i : Int) 0 ((bytes.length : Int) - 1) z) rfl rfl ?_; rintro _ _ - ⟨rfl, rfl⟩; refine gO ?_
  simp only [i1]
  refine gO ?_
  refine tT ?_; refine callP (in_i vv 1 255 z) rfl rfl ?_; rintro _ _ - ⟨rfl, rfl⟩; refine gO ?_
  simp only [i2]
  refine gO ?_
  (refine ldF.one _ (RdS.cell 50 rfl rfl) ?_; refine gO ?_)
  (refine ldF.one _ (RdS.cell 50 rfl rfl) ?_; refine gO ?_)
  refine ⟨⟨by omega, by omega, hA3⟩, ?_⟩
  (try simp only [seval, go_sem])
  simp only [Nat.mul_one]
  refine ldF.one _ (RdS.cell 46 rfl (bc_get hi)) ?_
  refine gO ?_
  refine ⟨⟨by omega, by omega, hA3⟩, ?_⟩
  (try simp only [seval, go_sem])
  simp only [Nat.mul_one]
  rw [bend_bits hb2 hi hvv]
  refine stoV_row 46 rfl rfl rfl rfl rfl rfl rfl (by simp only [bc, List.length_map, List.length_singleton]; omega) ?_
  rw [bc_set hi]
  refine gO ?_
  refine stoV_row 50 rfl rfl rfl rfl rfl rfl rfl (by simp [netV]) ?_
  simp only [seval, go_sem, putV]
  refine gO ?_
  (refine FinV.pk 97 [46, 51] ?_); dsimp only
  refine FinV.tf (Tf.own 97 rfl rfl (fun w F h => starL_tie h)) ?_
  dsimp only
  (refine FinV.give 1000 0 2005 2000 rfl rfl rfl ?_); simp only [seval, go_sem, giveSt, subV, subC, subE, subL]
  (refine FinV.pk 999 [1000, 10, 11, 22, 23, 32, 33, 40, 41, 50, 97] ?_); dsimp only
  refine fP ?_
  have hbm : bendM ⟨false, bytes⟩ (i : Int) vv = ⟨true, bytes.set i (((bytes.getD i 0).toNat ^^^ vv.toNat : Nat) : Int)⟩ := by unfold bendM; rw [if_pos ⟨by omega, by exact hat.2, hvv.1, hvv.2, rfl⟩]; rfl
  rw [hbm]
  have hbe' : bysA (bytes.set i (((bytes.getD i 0).toNat ^^^ vv.toNat : Nat) : Int)) a cb = rowA tyB 1 (.slice a bytes.length cb) bytes.length (bc (bytes.set i (((bytes.getD i 0).toNat ^^^ vv.toNat : Nat) : Int))) := by
   unfold bysA
   rw [if_neg (List.ne_nil_of_length_pos (by rw [List.length_set]; omega)), List.length_set]
  refine ⟨e0, e1, _, _, ⟨E, EC, N, NC, m0, m1, ⟨A0, C0, ms0⟩, ⟨A1, C1, (a, cb) :: ms⟩⟩, link, rfl, ?_, ?_⟩
  ·simp only [wldP, wldL, netB, netV, hbe', List.length_set]
   rfl
  ·have hbx := bend_bys hb2 hi hvv
   exact ⟨hR.e0, hR.e1, hR.n0, ⟨⟨⟨by rw [List.length_set]; exact hb1, hbx⟩, hok2⟩, hcap⟩⟩
 ·have hbm : bendM ⟨bent, bytes⟩ at_ vv = ⟨bent, bytes⟩ := by
   unfold bendM
   rw [if_neg (fun h => hP ⟨h.2.2.2.2, ⟨h.1, h.2.1⟩, h.2.2.1, h.2.2.2.1⟩)]
  rw [hbm]
  refine eQ kyI k66 ?_
  refine vsI.atR 11 rfl fun hN => ?_
  have hN := hN (by omega)
  refine vsI.atR 50 rfl fun hA2 => ?_
  have hA2 := hA2 (by simp)
  refine gO ?_
  refine tT ?_; refine callP (in_i 1 0 1 z) rfl rfl ?_; rintro _ _ - ⟨rfl, rfl⟩; refine gO ?_
  simp only [seval, go_sem, show inB 0 0 1 = true from rfl, show inB 1 0 1 = true from rfl]
  refine gO ?_
  ((first | refine ⟨⟨by omega, hN⟩, ?_⟩ | refine ⟨hN, ?_⟩); (try simp only [seval, go_sem]))
  refine gO ?_
  (refine ldF.one _ (RdS.cell 11 rfl rfl) ?_; refine gO ?_)
  repeat (simp only [seval, go_sem, hs]; refine gO ?_)
  (refine ldF.one _ (RdS.cell 11 rfl rfl) ?_; refine gO ?_)
  refine ⟨⟨by simp, hA2⟩, ?_⟩
  refine gO ?_
  (refine ldF.one _ (RdS.cell 50 rfl rfl) ?_; refine gO ?_)
  try simp only [w1]
  refine tT ?_; refine callP (in_i at_ 0 ((bytes.length : Int) - 1) z) rfl rfl ?_; rintro _ _ - ⟨rfl, rfl⟩; refine gO ?_
  cases i1 : inB at_ 0 ((bytes.length : Int) - 1)
  ·refine gO ?_
   refine wF5 ?_
   exact WldQ.mk hR
  ·refine gO ?_
   refine tT ?_; refine callP (in_i vv 1 255 z) rfl rfl ?_; rintro _ _ - ⟨rfl, rfl⟩; refine gO ?_
   cases i2 : inB vv 1 255
   ·refine gO ?_
    refine wF5 ?_
    exact WldQ.mk hR
   ·refine gO ?_
    (refine ldF.one _ (RdS.cell 50 rfl rfl) ?_; refine gO ?_)
    cases bent
    ·exfalso
     rw [inB_iff] at i1 i2
     exact hP ⟨rfl, ⟨i1.1, by omega⟩, i2⟩
    ·refine gO ?_
     refine wF5 ?_
     exact WldQ.mk hR
set_option maxHeartbeats 4000000
theorem num_all0 (b : Nat) (c : Cfg) (link : Int) (e0 e1 : End) (n0 n1 : List Msg) (m : WM) (ev : Evt) (v : Value) (z : Zc) (hv : By z ev.data v) (hd : ev.data.length ≤ 100) (hR : WldB z e0 e1 n0 n1 m) (hI : EndI c e0) (h0 : n0.length ≤ 30) (h1 : n1.length ≤ 30) (hw : ev.who = 0) (hk : 1 ≤ ev.kind ∧ ev.kind ≤ 6) :
  Spec Tryz.prog 107 [.pointer (some ⟨b, 0, none⟩), vEvt ev v] z (wldP b c link e0 e1 n0 n1 m) fun _ z' A' => WldQ c (byNum false ⟨c, [e0, e1], [n0, n1], link⟩ 0 ev) b z' A' := by
 have : ev.kind = 1 ∨ ev.kind = 2 ∨ ev.kind = 3 ∨ ev.kind = 4 ∨ ev.kind = 5 ∨ ev.kind = 6 := by omega
 rcases this with h | h | h | h | h | h
 ·exact num_put0 b c link e0 e1 n0 n1 m ev v z hv (by omega) hR hI hw h
 ·exact num_send0 b c link e0 e1 n0 n1 m ev v z hv hR hI h0 h1 hw h
 ·exact num_tick0 b c link e0 e1 n0 n1 m ev v z hv hR hI h0 h1 hw h
 ·exact num_busy0 b c link e0 e1 n0 n1 m ev v z hv hR hI h0 h1 hw h
 ·exact num_ack0 b c link e0 e1 n0 n1 m ev v z hv hR hI h0 h1 hw h
 ·exact num_none0 b c link e0 e1 n0 n1 m ev v z hv hR hw h
theorem num_all1 (b : Nat) (c : Cfg) (link : Int) (e0 e1 : End) (n0 n1 : List Msg) (m : WM) (ev : Evt) (v : Value) (z : Zc) (hv : By z ev.data v) (hd : ev.data.length ≤ 100) (hR : WldB z e0 e1 n0 n1 m) (hI : EndI c e1) (h0 : n0.length ≤ 30) (h1 : n1.length ≤ 30) (hw : ev.who = 1) (hk : 1 ≤ ev.kind ∧ ev.kind ≤ 6) :
  Spec Tryz.prog 107 [.pointer (some ⟨b, 0, none⟩), vEvt ev v] z (wldP b c link e0 e1 n0 n1 m) fun _ z' A' => WldQ c (byNum false ⟨c, [e0, e1], [n0, n1], link⟩ 1 ev) b z' A' := by
 have : ev.kind = 1 ∨ ev.kind = 2 ∨ ev.kind = 3 ∨ ev.kind = 4 ∨ ev.kind = 5 ∨ ev.kind = 6 := by omega
 rcases this with h | h | h | h | h | h
 ·exact num_put1 b c link e0 e1 n0 n1 m ev v z hv (by omega) hR hI hw h
 ·exact num_send1 b c link e0 e1 n0 n1 m ev v z hv hR hI h0 h1 hw h
 ·exact num_tick1 b c link e0 e1 n0 n1 m ev v z hv hR hI h0 h1 hw h
 ·exact num_busy1 b c link e0 e1 n0 n1 m ev v z hv hR hI h0 h1 hw h
 ·exact num_ack1 b c link e0 e1 n0 n1 m ev v z hv hR hI h0 h1 hw h
 ·exact num_none1 b c link e0 e1 n0 n1 m ev v z hv hR hw h
theorem step_n0 (b : Nat) (c : Cfg) (link : Int) (e0 e1 : End) (n0 n1 : List Msg) (m : WM) (ev : Evt) (v : Value) (z : Zc) (hv : By z ev.data v) (hd : ev.data.length ≤ 100) (hR : WldB z e0 e1 n0 n1 m) (hI : EndI c e0) (h0 : n0.length ≤ 30) (h1 : n1.length ≤ 30) (hm : c.mode = 1) (hw : ev.who = 0) (hk : 1 ≤ ev.kind ∧ ev.kind ≤ 6) :
  Spec Tryz.prog 66 [.pointer (some ⟨b, 0, none⟩), vEvt ev v] z (wldP b c link e0 e1 n0 n1 m) fun _ z' A' => WldQ c (byNum false ⟨c, [e0, e1], [n0, n1], link⟩ 0 ev) b z' A' := by
 obtain ⟨Av, kv, rfl, hkv, hBv, hrv⟩ := hv.form
 have hc := fun bb => num_all0 bb c link e0 e1 n0 n1 m ev _ z hv hd hR hI h0 h1 hw hk
 obtain ⟨kind, who, at_, vv, data⟩ := ev
 obtain ⟨mode, win, mps, mtu, tri⟩ := c
 dsimp only at *
 subst hw
 subst hm
 have k7 : (kind == 7) = false := by simp; omega
 have k8 : (kind == 8) = false := by simp; omega
 have k9 : (kind == 9) = false := by simp; omega
 have k10 : (kind == 10) = false := by simp; omega
 have k11 : (kind == 11) = false := by simp; omega
 have l7 : decide (kind < 7) = true := decide_eq_true (by omega)
 refine eQ kyI k66 ?_
 refine vsI.atR 11 rfl fun hN => ?_
 have hN := hN (by omega)
 refine gO ?_
 refine tT ?_; refine callP (in_i 0 0 1 z) rfl rfl ?_; rintro _ _ - ⟨rfl, rfl⟩; refine gO ?_
 simp only [seval, go_sem, show inB 0 0 1 = true from rfl, show inB 1 0 1 = true from rfl]
 refine gO ?_
 ((first | refine ⟨⟨by omega, hN⟩, ?_⟩ | refine ⟨hN, ?_⟩); (try simp only [seval, go_sem]))
 refine gO ?_
 (refine ldF.one _ (RdS.cell 11 rfl rfl) ?_; refine gO ?_)
 repeat (simp only [seval, go_sem, k7, k8, k9, k10, k11, l7]; refine gO ?_)
 (refine callT.give 93 0 2003 rfl rfl (fun b3 => ?_)); simp only [seval, go_sem, giveSt, subV, subC, subE, subL]
 refine wC ?_
 refine tT ?_; refine callW 94 (hc b3) rfl rfl rfl rfl ?_; rintro v3 z3 A3 hz3 ⟨f0, f1, g0, g1, m3, link3, hw3, rfl, hR3⟩; refine gO ?_
 refine wO ?_
 refine wF5 ?_
 exact ⟨f0, f1, g0, g1, m3, link3, hw3, rfl, hR3⟩
theorem step_n1 (b : Nat) (c : Cfg) (link : Int) (e0 e1 : End) (n0 n1 : List Msg) (m : WM) (ev : Evt) (v : Value) (z : Zc) (hv : By z ev.data v) (hd : ev.data.length ≤ 100) (hR : WldB z e0 e1 n0 n1 m) (hI : EndI c e1) (h0 : n0.length ≤ 30) (h1 : n1.length ≤ 30) (hm : c.mode = 1) (hw : ev.who = 1) (hk : 1 ≤ ev.kind ∧ ev.kind ≤ 6) :
  Spec Tryz.prog 66 [.pointer (some ⟨b, 0, none⟩), vEvt ev v] z (wldP b c link e0 e1 n0 n1 m) fun _ z' A' => WldQ c (byNum false ⟨c, [e0, e1], [n0, n1], link⟩ 1 ev) b z' A' := by
 obtain ⟨Av, kv, rfl, hkv, hBv, hrv⟩ := hv.form
 have hc := fun bb => num_all1 bb c link e0 e1 n0 n1 m ev _ z hv hd hR hI h0 h1 hw hk
 obtain ⟨kind, who, at_, vv, data⟩ := ev
 obtain ⟨mode, win, mps, mtu, tri⟩ := c
 dsimp only at *
 subst hw
 subst hm
 have k7 : (kind == 7) = false := by simp; omega
 have k8 : (kind == 8) = false := by simp; omega
 have k9 : (kind == 9) = false := by simp; omega
 have k10 : (kind == 10) = false := by simp; omega
 have k11 : (kind == 11) = false := by simp; omega
 have l7 : decide (kind < 7) = true := decide_eq_true (by omega)
 refine eQ kyI k66 ?_
 refine vsI.atR 11 rfl fun hN => ?_
 have hN := hN (by omega)
 refine gO ?_
 refine tT ?_; refine callP (in_i 1 0 1 z) rfl rfl ?_; rintro _ _ - ⟨rfl, rfl⟩; refine gO ?_
 simp only [seval, go_sem, show inB 0 0 1 = true from rfl, show inB 1 0 1 = true from rfl]
 refine gO ?_
 ((first | refine ⟨⟨by omega, hN⟩, ?_⟩ | refine ⟨hN, ?_⟩); (try simp only [seval, go_sem]))
 refine gO ?_
 (refine ldF.one _ (RdS.cell 11 rfl rfl) ?_; refine gO ?_)
 repeat (simp only [seval, go_sem, k7, k8, k9, k10, k11, l7]; refine gO ?_)
 (refine callT.give 93 0 2003 rfl rfl (fun b3 => ?_)); simp only [seval, go_sem, giveSt, subV, subC, subE, subL]
 refine wC ?_
 refine tT ?_; refine callW 94 (hc b3) rfl rfl rfl rfl ?_; rintro v3 z3 A3 hz3 ⟨f0, f1, g0, g1, m3, link3, hw3, rfl, hR3⟩; refine gO ?_
 refine wO ?_
 refine wF5 ?_
 exact ⟨f0, f1, g0, g1, m3, link3, hw3, rfl, hR3⟩
theorem wldok1 (x : Msg) (v : Value) (z : Zc) (hb : By z x.bytes v) (hl : x.bytes.length ≤ 1000000000) : PSpec Tryz.prog 45 ([vMsg x v] ++ []) z fun u z' => u = .bool (!decide (x.bytes.length ≤ 15)) ∧ z = z' := by
 obtain ⟨A, k, rfl, hk, hB, hrb⟩ := hb.form
 refine eP k45 ?_
 (try simp only [seval, go_sem]); repeat' (first | (with_reducible refine vsI.id ?_; (try simp only [seval, go_sem])) | (with_reducible refine vcI_cond ?_; (try simp only [seval, go_sem])) | (with_reducible refine guardR.split (fun hg => ?_) (fun hg => ?_) <;> (try simp only [hg]) <;> simp only [seval, go_sem]) | (with_reducible refine condI.split (fun hg => ?_) (fun hg => ?_) <;> (try simp only [hg]) <;> (try simp only [seval, go_sem])) | (with_reducible refine callM.toT ?_))
 (first|refine fN ?_|exact fZ)
 simp [← decide_not]; omega
theorem netAny {l : List Msg} (h : NetI l) : (l.any fun x => !decide (x.bytes.length ≤ 15)) = false := by
 rw [List.any_eq_false]
 intro x hx
 simp [h.2 x hx]
theorem wldok_i (c : Cfg) (link : Int) (e0 e1 : End) (n0 n1 : List Msg) (m : WM) (z : Zc) (hP : WldP z e0 e1 n0 n1 m) (hW : WldI ⟨c, [e0, e1], [n0, n1], link⟩) :
  PSpec Tryz.prog 18 [wldV c link m] z fun u z' => u = .bool true := by
 have hI0 : EndI c e0 := hW.ends 0 (by omega)
 have hI1 : EndI c e1 := hW.ends 1 (by omega)
 have hN0 : NetI n0 := hW.net 0 (by omega)
 have hN1 : NetI n1 := hW.net 1 (by omega)
 have hE : IsAt m.E := hP.E.isAt (by rw [endsC_len]; omega)
 have hN : IsAt m.N := hP.N.isAt (by simp)
 refine eP k18 ?_
 refine gO ?_
 refine tT ?_; refine callP (cfgok_i c z) rfl rfl ?_; rintro _ _ - ⟨rfl, rfl⟩; refine gO ?_
 simp only [cfgOk_iff.2 (show CfgI c from hW.cfg)]
 refine gO ?_
 refine tT ?_; refine callP (in_i link 0 1 z) rfl rfl ?_; rintro _ _ - ⟨rfl, rfl⟩; refine gO ?_
 simp only [inB_iff.2 (show 0 ≤ link ∧ link ≤ 1 from hW.link)]
 refine gO ?_
 refine loopV.rounds 3 ?_
 rw [roundsV_succ]
 try simp only [show IntKind.i64.wrap 0 = 0 from rfl]
 refine gO ?_
 try simp only [seval, go_sem, show decide ((0 : Int) < ((2 : Nat) : Int)) = true from rfl]
 refine gO ?_
 ((first | refine ⟨⟨by omega, hE⟩, ?_⟩ | refine ⟨hE, ?_⟩); (try simp only [seval, go_sem]))
 refine ldF.agg (sz := 28) _ rfl (by exact .inl (hP.E.sub 0 _ (fun i u hu => ends_get0 hu))) ?_
 simp only [seval, go_sem, endC]
 refine gO ?_
 refine tT ?_; refine callP (txok_i c e0.tx _ _ z hI0.tx hP.e0.fl hP.e0.qu) rfl rfl ?_; rintro u y1 hy1 rfl; refine gO ?_
 have hy1P := hP.mono hy1
 refine tT ?_; refine callP (rxok_i e0.rx _ y1 hI0.rx hy1P.e0.jo) rfl rfl ?_; rintro _ _ - ⟨rfl, rfl⟩; refine gO ?_
 refine tT ?_; refine callP (ctxok_i c e0.ctx _ y1 hy1P.e0.cq (by have := hI0.ctx.queue; omega) (fun p hp => by have := hI0.ctx.qu p hp; have := hI0.ctx.cfg.mps; omega)) rfl rfl ?_; rintro u y2 hy2 rfl; refine gO ?_
 simp only [ctxOk_iff.2 hI0.ctx]
 refine gO ?_
 have hQ := hy1P.mono hy2
 refine tT ?_; refine callP (crxok_i e0.crx m.m0.kA m.m0.kC y2 (by have := hI0.crx.2.le; omega) (by have := hI0.crx.2; rcases this with h | h <;> omega)) rfl rfl ?_; rintro _ _ - ⟨rfl, rfl⟩; refine gO ?_
 simp only [crxOk_iff.2 hI0.crx]
 refine gO ?_
 refine tT ?_; refine callP (sdusok_i e0.put _ y2 hQ.e0.pu (by have := hI0.put.1; omega) (fun p hp => by have := hI0.put.2 p hp; omega)) rfl rfl ?_; rintro _ _ - ⟨rfl, rfl⟩; refine gO ?_
 simp only [sdusOk_iff.2 hI0.put]
 refine gO ?_
 refine tT ?_; refine callP (sdusok_i e0.got _ y2 hQ.e0.go (by have := hI0.got.1; omega) (fun p hp => by have := hI0.got.2 p hp; omega)) rfl rfl ?_; rintro _ _ - ⟨rfl, rfl⟩; refine gO ?_
 simp only [sdusOk_iff.2 hI0.got]
 refine gO ?_
 ((first | refine ⟨⟨by omega, hN⟩, ?_⟩ | refine ⟨hN, ?_⟩); (try simp only [seval, go_sem]))
 (refine ldF.one _ (by first | exact .inl (hQ.N.cell 0 rfl) | exact (hQ.N.cell 0 rfl)) ?_; (try simp only [seval, go_sem]))
 have d0 : decide ((n0.length : Int) > 30) = false := decide_eq_false (by have := hN0.1; omega)
 try simp only [seval, go_sem, d0]
 refine gO ?_
 ((first | refine ⟨⟨by omega, hN⟩, ?_⟩ | refine ⟨hN, ?_⟩); (try simp only [seval, go_sem]))
 (refine ldF.one _ (by first | exact .inl (hQ.N.cell 0 rfl) | exact (hQ.N.cell 0 rfl)) ?_; (try simp only [seval, go_sem]))
 obtain ⟨cs0, he0, hr0⟩ := Els.one1 hQ.n0
 refine tT ?_; refine callP (containsM (p := fun x => !decide (x.bytes.length ≤ 15)) (caps := []) he0 hr0 (by have := hN0.1; omega) (by kernel_rfl) (fun x hx v hv => wldok1 x v y2 hv (by have := hN0.2 x hx; omega))) rfl rfl ?_; rintro _ _ - ⟨rfl, rfl⟩; refine gO ?_
 try simp only [netAny hN0]
 refine gO ?_
 simp only [seval, go_sem, roundK_normal]
 rw [roundsV_succ]
 try simp only [show IntKind.i64.wrap 1 = 1 from rfl]
 refine gO ?_
 try simp only [seval, go_sem, show decide ((1 : Int) < ((2 : Nat) : Int)) = true from rfl]
 refine gO ?_
 ((first | refine ⟨⟨by omega, hE⟩, ?_⟩ | refine ⟨hE, ?_⟩); (try simp only [seval, go_sem]))
 refine ldF.agg (sz := 28) _ rfl (by exact .inl (hQ.E.sub 28 _ (fun i u hu => ends_get1 hu))) ?_
 simp only [seval, go_sem, endC]
 refine gO ?_
 refine tT ?_; refine callP (txok_i c e1.tx _ _ y2 hI1.tx hQ.e1.fl hQ.e1.qu) rfl rfl ?_; rintro u x1 hx1 rfl; refine gO ?_
 have hx1P := hQ.mono hx1
 refine tT ?_; refine callP (rxok_i e1.rx _ x1 hI1.rx hx1P.e1.jo) rfl rfl ?_; rintro _ _ - ⟨rfl, rfl⟩; refine gO ?_
 refine tT ?_; refine callP (ctxok_i c e1.ctx _ x1 hx1P.e1.cq (by have := hI1.ctx.queue; omega) (fun p hp => by have := hI1.ctx.qu p hp; have := hI1.ctx.cfg.mps; omega)) rfl rfl ?_; rintro u x2 hx2 rfl; refine gO ?_
 simp only [ctxOk_iff.2 hI1.ctx]
 refine gO ?_
 have hQ := hx1P.mono hx2
 refine tT ?_; refine callP (crxok_i e1.crx m.m1.kA m.m1.kC x2 (by have := hI1.crx.2.le; omega) (by have := hI1.crx.2; rcases this with h | h <;> omega)) rfl rfl ?_; rintro _ _ - ⟨rfl, rfl⟩; refine gO ?_
 simp only [crxOk_iff.2 hI1.crx]
 refine gO ?_
 refine tT ?_; refine callP (sdusok_i e1.put _ x2 hQ.e1.pu (by have := hI1.put.1; omega) (fun p hp => by have := hI1.put.2 p hp; omega)) rfl rfl ?_; rintro _ _ - ⟨rfl, rfl⟩; refine gO ?_
 simp only [sdusOk_iff.2 hI1.put]
 refine gO ?_
 refine tT ?_; refine callP (sdusok_i e1.got _ x2 hQ.e1.go (by have := hI1.got.1; omega) (fun p hp => by have := hI1.got.2 p hp; omega)) rfl rfl ?_; rintro _ _ - ⟨rfl, rfl⟩; refine gO ?_
 simp only [sdusOk_iff.2 hI1.got]
 refine gO ?_
 ((first | refine ⟨⟨by omega, hN⟩, ?_⟩ | refine ⟨hN, ?_⟩); (try simp only [seval, go_sem]))
 (refine ldF.one _ (by first | exact .inl (hQ.N.cell 1 rfl) | exact (hQ.N.cell 1 rfl)) ?_; (try simp only [seval, go_sem]))
 have d1 : decide ((n1.length : Int) > 30) = false := decide_eq_false (by have := hN1.1; omega)
 try simp only [seval, go_sem, d1]
 refine gO ?_
 ((first | refine ⟨⟨by omega, hN⟩, ?_⟩ | refine ⟨hN, ?_⟩); (try simp only [seval, go_sem]))
 (refine ldF.one _ (by first | exact .inl (hQ.N.cell 1 rfl) | exact (hQ.N.cell 1 rfl)) ?_; (try simp only [seval, go_sem]))
 obtain ⟨cs1, he1, hr1⟩ := Els.one1 hQ.n1
 refine tT ?_; refine callP (containsM (p := fun x => !decide (x.bytes.length ≤ 15)) (caps := []) he1 hr1 (by have := hN1.1; omega) (by kernel_rfl) (fun x hx v hv => wldok1 x v x2 hv (by have := hN1.2 x hx; omega))) rfl rfl ?_; rintro _ _ - ⟨rfl, rfl⟩; refine gO ?_
 try simp only [netAny hN1]
 refine gO ?_
 simp only [seval, go_sem, roundK_normal]
 rw [roundsV_succ]
 try simp only [show IntKind.i64.wrap 2 = 2 from rfl]
 refine gO ?_
 try simp only [seval, go_sem, show decide ((2 : Int) < ((2 : Nat) : Int)) = false from rfl]
 refine gO ?_
 simp only [seval, go_sem, roundK_exit]
 (first|refine fN ?_|exact fZ)
set_option maxHeartbeats 8000000
theorem put28l {cs l : List Value} (h : cs.length = 56) (hl : l.length = 28) : (putV cs 0 l).length = 56 := by simp [putV, hl, h]
theorem put28 {cs l l' : List Value} (h : cs.length = 56) (hl : l.length = 28) (hl' : l'.length = 28) : putV (putV cs 0 l) 28 l' = l ++ l' := by
 have e0 : putV cs 0 l = l ++ cs.drop 28 := by simp [putV, hl]
 have e1 : (l ++ cs.drop 28).take 28 = l := by rw [← hl, List.take_left]
 have e2 : (l ++ cs.drop 28).drop (28 + l'.length) = [] := List.drop_eq_nil_of_le (by simp; omega)
 rw [e0]
 unfold putV
 rw [e1, e2]
 simp
theorem putCpy {d1 d2 : List Value} {a v u : Value} {i o : Nat} (h : d1.length = i * 2) (ho : o = i * 2 + 1) : putV (d1 ++ a :: v :: d2) o [u] = (d1 ++ [a, u]) ++ d2 := by
 subst ho
 have e1 : (d1 ++ a :: v :: d2).take (i * 2 + 1) = d1 ++ [a] := by rw [List.take_append, h]; simp [List.take_of_length_le, h]
 have e2 : (d1 ++ a :: v :: d2).drop (i * 2 + 1 + 1) = d2 := by rw [List.drop_append, h, List.drop_eq_nil_of_le (by omega), show i * 2 + 1 + 1 - i * 2 = 2 by omega]; rfl
 unfold putV
 rw [e1]
 simp only [List.length_singleton]
 rw [e2]
 simp
structure CpmS where
 i : Nat
 ms : List (Option Addr × Nat)
 d : List Value
 z : Zc
theorem take_drop1 {α : Type} {l : List α} {i : Nat} {x : α} (h : l[i]? = some x) : l.drop i = x :: l.drop (i + 1) := by
 have hi : i < l.length := (List.getElem?_eq_some_iff.1 h).1
 rw [List.drop_eq_getElem_cons hi]
 congr 1
 exact (List.getElem?_eq_some_iff.1 h).2
theorem copy_i (c : Cfg) (link : Int) (e0 e1 : End) (n0 n1 : List Msg) (m : WM) (z : Zc) (hP : WldP z e0 e1 n0 n1 m) (hW : WldI ⟨c, [e0, e1], [n0, n1], link⟩) :
  Spec Tryz.prog 65 [wldV c link m] z emp fun u z' A' => ∃ m', u = wldV c link m' ∧ A' = starL (wldL e0 e1 n0 n1 m') ∧ WldB z' e0 e1 n0 n1 m' := by
 have hI0 : EndI c e0 := hW.ends 0 (by omega)
 have hI1 : EndI c e1 := hW.ends 1 (by omega)
 have hN0 : NetI n0 := hW.net 0 (by omega)
 have hN1 : NetI n1 := hW.net 1 (by omega)
 have hE : IsAt m.E := hP.E.isAt (by rw [endsC_len]; omega)
 have hN : IsAt m.N := hP.N.isAt (by simp)
 refine eA k65 ?_
 refine gO ?_
 refine joinV.le (ι := Nat × List Value × Nat × List Value) (fun i => i.2.1.length = 56 ∧ i.2.2.2 = [.slice none 0 0, .slice none 0 0]) [3, 10, 11, 12, 13, 14, 15, 16, 17, 18, 19, 20, 21, 22] (fun _ => [(3, .c (.p 2 0))])
  (fun i => [(0, .cells tyW [.v (.int .i64 c.mode), .v (.int .i64 c.win), .v (.int .i64 c.mps), .v (.int .i64 c.mtu), .v (.int .i64 c.tri), .v (.slice m.E 2 m.EC), .v (.slice m.N 2 m.NC), .v (.int .i64 link)]), (1, .cells tyW [.v (.int .i64 0), .v (.int .i64 0), .v (.int .i64 0), .v (.int .i64 0), .v (.int .i64 0), .v (.slice none 0 0), .v (.slice none 0 0), .v (.int .i64 0)]),
   (2, .cells tyW [.v (.int .i64 c.mode), .v (.int .i64 c.win), .v (.int .i64 c.mps), .v (.int .i64 c.mtu), .v (.int .i64 c.tri), .v (.slice (some ⟨i.1, 0, none⟩) 2 2), .v (.slice (some ⟨i.2.2.1, 0, none⟩) 2 2), .v (.int .i64 link)]),
   (10, .own (rowA tyE 28 (.slice (some ⟨i.1, 0, none⟩) 2 2) 2 i.2.1)), (11, .own (rowA tyN 1 (.slice (some ⟨i.2.2.1, 0, none⟩) 2 2) 2 i.2.2.2))]) (fun _ => z) 3 (by simp only [anyL, st]; exact rfl) ?_ ?_
 ·simp only [seval, go_sem]
  repeat' (first | (refine And.intro ?_ ?_ <;> (try simp only [seval, go_sem])) | (refine oth_makeSliceB 10 atyE rfl rfl rfl (n := 2) (by omega) (by omega) (fun bE zE hzE => ?_); (generalize hcE : (madeCells zE.cells (2 * 28)).toList = csE); (have h56 : csE.length = 56 := by rw [← hcE]; simp [size_madeCells]); clear hcE hzE; (try simp only [seval, go_sem])) | (refine oth_makeSliceB 11 atyN rfl rfl rfl (n := 2) (by omega) (by omega) (fun bN zN hzN => ?_); simp only [Nat.mul_one, nets_zero hzN]; (try simp only [seval, go_sem])))
  all_goals refine ⟨(bE, csE, bN, [.slice none 0 0, .slice none 0 0]), ⟨h56, rfl⟩, ?_⟩
  all_goals exact lX
 ·rintro ⟨bE, csE, bN, csN⟩ ⟨h56, hcs⟩
  dsimp only at h56 hcs ⊢
  subst hcs
  refine gO ?_
  refine loopV.rounds 3 ?_
  rw [roundsV_succ]
  try simp only [show IntKind.i64.wrap 1 = 1 from rfl]
  refine gO ?_
  try simp only [seval, go_sem, show decide ((0 : Int) < ((2 : Nat) : Int)) = true from rfl]
  refine gO ?_
  ((first | refine ⟨⟨by omega, hE⟩, ?_⟩ | refine ⟨hE, ?_⟩); (try simp only [seval, go_sem]))
  refine ldF.agg (sz := 28) _ rfl (by exact .inl (hP.E.sub 0 _ (fun i u hu => ends_get0 hu))) ?_
  simp only [seval, go_sem, endC]
  refine gO ?_
  refine tT ?_; refine callP (txcopy_i e0.tx _ _ z hP.e0.fl hP.e0.qu (by have := hI0.tx.win; have := hI0.tx.cfg.win; omega) (by have := hI0.tx.queue; omega) (fun p hp => by have := hI0.tx.flSmall p hp; omega) (fun p hp => by have := hI0.tx.quSmall p hp; omega)) rfl rfl ?_; rintro u az1 haz1 ⟨afA, aqA, rfl, ahf, ahq⟩; refine gO ?_
  refine tT ?_; refine callP (rxcopy_i e0.rx _ az1 (Sl.mono haz1 hP.e0.jo) (by have := hI0.rx.join.le; omega)) rfl rfl ?_; rintro u az2 haz2 ⟨ajA, rfl, ahj⟩; refine gO ?_
  have haz02 := Zc.trans' haz1 haz2
  refine tT ?_; refine callP (ctxcopy_i e0.ctx _ az2 (Sl.mono haz02 hP.e0.cq) (by have := hI0.ctx.queue; omega) (fun p hp => by have := hI0.ctx.small p hp; omega)) rfl rfl ?_; rintro u az3 haz3 ⟨acA, rfl, ahc⟩; refine gO ?_
  have haz03 := Zc.trans' haz02 haz3
  refine tT ?_; refine callP (crxcopy_i e0.crx _ az3 (Sl.mono haz03 hP.e0.kj) (by have := hI0.crx.2.le; omega)) rfl rfl ?_; rintro u az4 haz4 ⟨akA, rfl, ahk⟩; refine gO ?_
  have haz04 := Zc.trans' haz03 haz4
  refine tT ?_; refine callO 22 (copysdusO e0.put _ az4 (Sl.mono haz04 hP.e0.pu) (by have := hI0.put.1; omega) (fun p hp => by have := hI0.put.2 p hp; omega)) rfl rfl rfl ?_; rintro u az5 A' haz5 ⟨apA, apC, apV, rfl, rfl, ahpc, ahpe⟩; refine gO ?_
  have haz05 := Zc.trans' haz04 haz5
  refine tT ?_; refine callO 23 (copysdusO e0.got _ az5 (Sl.mono haz05 hP.e0.go) (by have := hI0.got.1; omega) (fun p hp => by have := hI0.got.2 p hp; omega)) rfl rfl rfl ?_; rintro u az6 A' haz6 ⟨agA, agC, agV, rfl, rfl, ahgc, ahge⟩; refine gO ?_
  have haz06 := Zc.trans' haz05 haz6
  ((first | refine ⟨⟨by omega, ⟨bE, 0, rfl⟩⟩, ?_⟩ | refine ⟨⟨bE, 0, rfl⟩, ?_⟩); (try simp only [seval, go_sem]))
  refine stoV_row 10 rfl rfl rfl rfl rfl rfl rfl (by simp [h56]) ?_
  simp only [seval, go_sem]
  refine gO ?_
  simp only [seval, go_sem, roundK_normal]
  have hP1 := hP.mono haz06
  rw [roundsV_succ]
  try simp only [show IntKind.i64.wrap 1 = 1 from rfl]
  refine gO ?_
  try simp only [seval, go_sem, show decide ((1 : Int) < ((2 : Nat) : Int)) = true from rfl]
  refine gO ?_
  ((first | refine ⟨⟨by omega, hE⟩, ?_⟩ | refine ⟨hE, ?_⟩); (try simp only [seval, go_sem]))
  refine ldF.agg (sz := 28) _ rfl (by exact .inl (hP1.E.sub 28 _ (fun i u hu => ends_get1 hu))) ?_
  simp only [seval, go_sem, endC]
  refine gO ?_
  refine tT ?_; refine callP (txcopy_i e1.tx _ _ az6 hP1.e1.fl hP1.e1.qu (by have := hI1.tx.win; have := hI1.tx.cfg.win; omega) (by have := hI1.tx.queue; omega) (fun p hp => by have := hI1.tx.flSmall p hp; omega) (fun p hp => by have := hI1.tx.quSmall p hp; omega)) rfl rfl ?_; rintro u bz1 hbz1 ⟨bfA, bqA, rfl, bhf, bhq⟩; refine gO ?_
  refine tT ?_; refine callP (rxcopy_i e1.rx _ bz1 (Sl.mono hbz1 hP1.e1.jo) (by have := hI1.rx.join.le; omega)) rfl rfl ?_; rintro u bz2 hbz2 ⟨bjA, rfl, bhj⟩; refine gO ?_
  have hbz02 := Zc.trans' hbz1 hbz2
  refine tT ?_; refine callP (ctxcopy_i e1.ctx _ bz2 (Sl.mono hbz02 hP1.e1.cq) (by have := hI1.ctx.queue; omega) (fun p hp => by have := hI1.ctx.small p hp; omega)) rfl rfl ?_; rintro u bz3 hbz3 ⟨bcA, rfl, bhc⟩; refine gO ?_
  have hbz03 := Zc.trans' hbz02 hbz3
  refine tT ?_; refine callP (crxcopy_i e1.crx _ bz3 (Sl.mono hbz03 hP1.e1.kj) (by have := hI1.crx.2.le; omega)) rfl rfl ?_; rintro u bz4 hbz4 ⟨bkA, rfl, bhk⟩; refine gO ?_
  have hbz04 := Zc.trans' hbz03 hbz4
  refine tT ?_; refine callO 32 (copysdusO e1.put _ bz4 (Sl.mono hbz04 hP1.e1.pu) (by have := hI1.put.1; omega) (fun p hp => by have := hI1.put.2 p hp; omega)) rfl rfl rfl ?_; rintro u bz5 A' hbz5 ⟨bpA, bpC, bpV, rfl, rfl, bhpc, bhpe⟩; refine gO ?_
  have hbz05 := Zc.trans' hbz04 hbz5
  refine tT ?_; refine callO 33 (copysdusO e1.got _ bz5 (Sl.mono hbz05 hP1.e1.go) (by have := hI1.got.1; omega) (fun p hp => by have := hI1.got.2 p hp; omega)) rfl rfl rfl ?_; rintro u bz6 A' hbz6 ⟨bgA, bgC, bgV, rfl, rfl, bhgc, bhge⟩; refine gO ?_
  have hbz06 := Zc.trans' hbz05 hbz6
  ((first | refine ⟨⟨by omega, ⟨bE, 0, rfl⟩⟩, ?_⟩ | refine ⟨⟨bE, 0, rfl⟩, ?_⟩); (try simp only [seval, go_sem]))
  refine stoV_row 10 rfl rfl rfl rfl rfl rfl rfl (by rw [put28l h56 rfl]; simp) ?_
  rw [put28 h56 rfl rfl]
  simp only [seval, go_sem]
  refine gO ?_
  simp only [seval, go_sem, roundK_normal]
  have hP2 := hP1.mono hbz06
  rw [roundsV_succ]
  try simp only [show IntKind.i64.wrap 2 = 2 from rfl]
  refine gO ?_
  try simp only [seval, go_sem, show decide ((2 : Int) < ((2 : Nat) : Int)) = false from rfl]
  refine gO ?_
  simp only [seval, go_sem, roundK_exit]
  refine gO ?_
  refine loopV.tf (Tf.own (A' := rowA tyE 28 (.slice (some ⟨bE, 0, none⟩) 2 2) 2 (endsC e0 e1 ⟨afA, e0.tx.flight.length, [], aqA, e0.tx.queue.length, [], apA, apC, apV, agA, agC, agV, ajA, e0.rx.join.got.length, acA, e0.ctx.queue.length, akA, e0.crx.join.got.length⟩ ⟨bfA, e1.tx.flight.length, [], bqA, e1.tx.queue.length, [], bpA, bpC, bpV, bgA, bgC, bgV, bjA, e1.rx.join.got.length, bcA, e1.ctx.queue.length, bkA, e1.crx.join.got.length⟩)) 10 rfl rfl (fun w F h => h)) ?_
  dsimp only
  refine loopV.rounds 3 ?_
  rw [roundsV_succ]
  try simp only [show IntKind.i64.wrap 1 = 1 from rfl]
  refine gO ?_
  try simp only [seval, go_sem, show decide ((0 : Int) < ((2 : Nat) : Int)) = true from rfl]
  refine gO ?_
  obtain ⟨cs0, he0, hr0⟩ := Els.one1 hP2.n0
  ((first | refine ⟨⟨by omega, hN⟩, ?_⟩ | refine ⟨hN, ?_⟩); (try simp only [seval, go_sem]))
  (refine ldF.one _ (by first | exact .inl (hP2.N.cell 0 rfl) | exact (hP2.N.cell 0 rfl)) ?_; (try simp only [seval, go_sem]))
  refine gO ?_
  refine tT ?_; refine callO 40 (cloneMO m.n0.A n0.length m.n0.C cs0 bz6 hr0 he0.length he0.one (by have := hN0.1; omega)) rfl rfl rfl ?_; rintro u w0 A' hw0 ⟨rA0, rfl, rfl, hat0⟩; refine gO ?_
  ((first | refine ⟨⟨by omega, ⟨bN, 0, rfl⟩⟩, ?_⟩ | refine ⟨⟨bN, 0, rfl⟩, ?_⟩); (try simp only [seval, go_sem]))
  (refine stoV_row 11 rfl rfl rfl rfl rfl rfl rfl (by simp) ?_; simp only [seval, go_sem, putV]; refine gO ?_)
  refine loopV.tf (Tf.addE 41 rfl) ?_
  dsimp only
  refine loop_updF (n := 5) [40, 41] (ι := CpmS) (fun s => w0 ≤ s.z ∧ s.i ≤ n0.length ∧ netO (n0.take s.i) s.ms ∧ Els mRep s.z (n0.drop s.i) s.d) (fun s => [(71, .c (.v (.int .i64 s.i)))]) (fun s => [(40, .own (rowA tyM 2 (.slice rA0 n0.length n0.length) n0.length (netV (n0.take s.i) s.ms ++ s.d))), (41, .own (starL (netB (n0.take s.i) s.ms)))]) (fun s => s.z) (fun s => n0.length - s.i) ⟨0, [], cs0, w0⟩ ⟨Zc.rfl' _, by simp, trivial, by simpa using he0.mono hw0⟩ (by (simp only [wrI, wrR, anyL, st, List.append_nil, List.nil_append, List.cons_append]); exact rfl) (by simp only [delL, del, Nat.reduceEqDiff, reduceCtorEq, if_true, if_false, reduceIte, Nat.succ_ne_self]; exact rfl) ?_ ?_
  ·simp only [List.cons_append, List.nil_append, List.take_zero, netV, netB]
   exact lX
  ·rintro ⟨i, ms0, d0, y0⟩ ⟨hy0, hi, hok0, hd0⟩
   dsimp only at *
   simp only [List.cons_append, List.nil_append]
   refine gO ?_
   (with_reducible refine condI.split (fun hg => ?_) (fun hg => ?_) <;> (try simp only [hg]) <;> (try simp only [seval, go_sem]))
   ·have hi' : i < n0.length := by have := of_decide_eq_true hg; omega
    obtain ⟨x, hx⟩ : ∃ x, n0[i]? = some x := ⟨_, List.getElem?_eq_getElem hi'⟩
    have hwy := Zc.trans' hw0 hy0
    obtain ⟨c1, ⟨v1, rfl, hb⟩, hrx⟩ := (he0.mono hwy).at (hr0.mono hwy) hx
    obtain ⟨A1, k1, rfl, hk1, hB1, hrb⟩ := By.form hb
    have hat : IsAt m.n0.A := he0.isAt hr0 (by decide) hi'
    have h15 := hN0.2 x (List.mem_of_getElem? hx)
    have hls := hok0.len
    have hn30 := hN0.1
    have htl : (n0.take i).length = i := by simp; omega
    have hvl := netV_len hok0
    rw [htl] at hvl
    rw [take_drop1 hx] at hd0
    obtain ⟨_, d2, rfl, ⟨v2, rfl, _⟩, hd2⟩ := hd0
    have hd2l : d2.length = (n0.drop (i + 1)).length * 2 := hd2.length
    rw [List.length_drop] at hd2l
    have hnv : ∀ A c, netV (n0.take i) ms0 ++ [.bool x.bent, .slice A x.bytes.length c] = netV (n0.take (i + 1)) (ms0 ++ [(A, c)]) := fun A c => by rw [take_snoc' hx, netV_snoc _ x _ _ _ hls]
    have hnb : ∀ A c, netB (n0.take i) ms0 ++ [bysA x.bytes A c] = netB (n0.take (i + 1)) (ms0 ++ [(A, c)]) := fun A c => by rw [take_snoc' hx, netB_snoc _ x _ _ _ hls]
    refine gO ?_
    (refine ⟨⟨by omega, by omega, hat⟩, ?_⟩; (try simp only [seval, go_sem]))
    (refine ldF.agg _ rfl (by first | exact .inl hrx | exact hrx) ?_; (try simp only [seval, go_sem]))
    refine gO ?_
    (with_reducible refine joinV.id ?_; simp only [seval, go_sem])
    ((first | refine ⟨⟨by omega, ⟨bN, 0, rfl⟩⟩, ?_⟩ | refine ⟨⟨bN, 0, rfl⟩, ?_⟩); (try simp only [seval, go_sem]))
    repeat' (first | (refine And.intro ?_ ?_ <;> (try simp only [seval, go_sem])) | (refine ldF.one _ (RdS.cell 11 rfl rfl) ?_; refine gO ?_))
    all_goals refine tT ?_; refine callO 95 (cloneByO x.bytes _ y0 hb (by omega)) rfl rfl rfl ?_; rintro v3 z3 A3 hz3 ⟨A5, rfl, rfl⟩; refine gO ?_
    repeat' (refine ldF.one _ (RdS.cell 11 rfl rfl) ?_; refine gO ?_)
    all_goals refine ⟨⟨by omega, by omega, hat0 (by omega)⟩, ?_⟩
    all_goals (try simp only [seval, go_sem])
    all_goals refine stoV_row 40 rfl rfl rfl rfl rfl rfl rfl (by simp only [List.length_append, List.length_cons, List.length_nil, hvl, hd2l]; omega) ?_
    all_goals rw [putCpy hvl rfl, hnv]
    all_goals simp only [seval, go_sem]
    all_goals refine vsI.pk 41 [41, 95] ?_
    all_goals dsimp only
    all_goals refine vsI.tf (Tf.own 41 rfl rfl (fun w F h => starL_push h)) ?_
    all_goals simp only [hnb]
    all_goals refine gO ?_
    all_goals refine ⟨⟨i + 1, ms0 ++ [(A5, x.bytes.length)], d2, z3⟩, ⟨Zc.trans' hy0 hz3, by dsimp only; omega, by dsimp only; rw [take_snoc' hx]; exact hok0.snoc (Nat.le_refl _) hB1, hd2.mono hz3⟩, by dsimp only; omega, ?_⟩
    all_goals simp only [List.cons_append, List.nil_append]
    all_goals exact lX
   ·have hil : i = n0.length := by have := of_decide_eq_false hg; omega
    subst hil
    rw [List.take_length] at hok0
    rw [List.drop_length] at hd0
    obtain rfl : d0 = [] := hd0
    simp only [List.take_length, List.append_nil]
    refine gO ?_
    simp only [seval, go_sem, roundK_normal]
    have hP3 := hP2.mono (Zc.trans' hw0 hy0)
    rw [roundsV_succ]
    try simp only [show IntKind.i64.wrap 1 = 1 from rfl]
    refine gO ?_
    try simp only [seval, go_sem, show decide ((1 : Int) < ((2 : Nat) : Int)) = true from rfl]
    refine gO ?_
    obtain ⟨cs1, he1, hr1⟩ := Els.one1 hP3.n1
    ((first | refine ⟨⟨by omega, hN⟩, ?_⟩ | refine ⟨hN, ?_⟩); (try simp only [seval, go_sem]))
    (refine ldF.one _ (by first | exact .inl (hP3.N.cell 1 rfl) | exact (hP3.N.cell 1 rfl)) ?_; (try simp only [seval, go_sem]))
    refine gO ?_
    refine tT ?_; refine callO 50 (cloneMO m.n1.A n1.length m.n1.C cs1 y0 hr1 he1.length he1.one (by have := hN1.1; omega)) rfl rfl rfl ?_; rintro u w1 A' hw1 ⟨rA1, rfl, rfl, hat1⟩; refine gO ?_
    ((first | refine ⟨⟨by omega, ⟨bN, 0, rfl⟩⟩, ?_⟩ | refine ⟨⟨bN, 0, rfl⟩, ?_⟩); (try simp only [seval, go_sem]))
    (refine stoV_row 11 rfl rfl rfl rfl rfl rfl rfl (by simp) ?_; simp only [seval, go_sem, putV]; refine gO ?_)
    refine loopV.tf (Tf.addE 51 rfl) ?_
    dsimp only
    refine loop_updF (n := 5) [50, 51] (ι := CpmS) (fun s => w1 ≤ s.z ∧ s.i ≤ n1.length ∧ netO (n1.take s.i) s.ms ∧ Els mRep s.z (n1.drop s.i) s.d) (fun s => [(71, .c (.v (.int .i64 s.i)))]) (fun s => [(50, .own (rowA tyM 2 (.slice rA1 n1.length n1.length) n1.length (netV (n1.take s.i) s.ms ++ s.d))), (51, .own (starL (netB (n1.take s.i) s.ms)))]) (fun s => s.z) (fun s => n1.length - s.i) ⟨0, [], cs1, w1⟩ ⟨Zc.rfl' _, by simp, trivial, by simpa using he1.mono hw1⟩ (by (simp only [wrI, wrR, anyL, st, List.append_nil, List.nil_append, List.cons_append]); exact rfl) (by simp only [delL, del, Nat.reduceEqDiff, reduceCtorEq, if_true, if_false, reduceIte, Nat.succ_ne_self]; exact rfl) ?_ ?_
    ·simp only [List.cons_append, List.nil_append, List.take_zero, netV, netB]
     exact lX
    ·rintro ⟨i, ms1, d1, y1⟩ ⟨hy1, hi, hok1, hd1⟩
     dsimp only at *
     simp only [List.cons_append, List.nil_append]
     refine gO ?_
     (with_reducible refine condI.split (fun hg => ?_) (fun hg => ?_) <;> (try simp only [hg]) <;> (try simp only [seval, go_sem]))
     ·have hi' : i < n1.length := by have := of_decide_eq_true hg; omega
      obtain ⟨x, hx⟩ : ∃ x, n1[i]? = some x := ⟨_, List.getElem?_eq_getElem hi'⟩
      have hwy := Zc.trans' hw1 hy1
      obtain ⟨c1, ⟨v1, rfl, hb⟩, hrx⟩ := (he1.mono hwy).at (hr1.mono hwy) hx
      obtain ⟨A1, k1, rfl, hk1, hB1, hrb⟩ := By.form hb
      have hat : IsAt m.n1.A := he1.isAt hr1 (by decide) hi'
      have h15 := hN1.2 x (List.mem_of_getElem? hx)
      have hls := hok1.len
      have hn30 := hN1.1
      have htl : (n1.take i).length = i := by simp; omega
      have hvl := netV_len hok1
      rw [htl] at hvl
      rw [take_drop1 hx] at hd1
      obtain ⟨_, d2, rfl, ⟨v2, rfl, _⟩, hd2⟩ := hd1
      have hd2l : d2.length = (n1.drop (i + 1)).length * 2 := hd2.length
      rw [List.length_drop] at hd2l
      have hnv : ∀ A c, netV (n1.take i) ms1 ++ [.bool x.bent, .slice A x.bytes.length c] = netV (n1.take (i + 1)) (ms1 ++ [(A, c)]) := fun A c => by rw [take_snoc' hx, netV_snoc _ x _ _ _ hls]
      have hnb : ∀ A c, netB (n1.take i) ms1 ++ [bysA x.bytes A c] = netB (n1.take (i + 1)) (ms1 ++ [(A, c)]) := fun A c => by rw [take_snoc' hx, netB_snoc _ x _ _ _ hls]
      refine gO ?_
      (refine ⟨⟨by omega, by omega, hat⟩, ?_⟩; (try simp only [seval, go_sem]))
      (refine ldF.agg _ rfl (by first | exact .inl hrx | exact hrx) ?_; (try simp only [seval, go_sem]))
      refine gO ?_
      (with_reducible refine joinV.id ?_; simp only [seval, go_sem])
      ((first | refine ⟨⟨by omega, ⟨bN, 0, rfl⟩⟩, ?_⟩ | refine ⟨⟨bN, 0, rfl⟩, ?_⟩); (try simp only [seval, go_sem]))
      repeat' (first | (refine And.intro ?_ ?_ <;> (try simp only [seval, go_sem])) | (refine ldF.one _ (RdS.cell 11 rfl rfl) ?_; refine gO ?_))
      all_goals refine tT ?_; refine callO 95 (cloneByO x.bytes _ y1 hb (by omega)) rfl rfl rfl ?_; rintro v3 z3 A3 hz3 ⟨A5, rfl, rfl⟩; refine gO ?_
      repeat' (refine ldF.one _ (RdS.cell 11 rfl rfl) ?_; refine gO ?_)
      all_goals refine ⟨⟨by omega, by omega, hat1 (by omega)⟩, ?_⟩
      all_goals (try simp only [seval, go_sem])
      all_goals refine stoV_row 50 rfl rfl rfl rfl rfl rfl rfl (by simp only [List.length_append, List.length_cons, List.length_nil, hvl, hd2l]; omega) ?_
      all_goals rw [putCpy hvl rfl, hnv]
      all_goals simp only [seval, go_sem]
      all_goals refine vsI.pk 51 [51, 95] ?_
      all_goals dsimp only
      all_goals refine vsI.tf (Tf.own 51 rfl rfl (fun w F h => starL_push h)) ?_
      all_goals simp only [hnb]
      all_goals refine gO ?_
      all_goals refine ⟨⟨i + 1, ms1 ++ [(A5, x.bytes.length)], d2, z3⟩, ⟨Zc.trans' hy1 hz3, by dsimp only; omega, by dsimp only; rw [take_snoc' hx]; exact hok1.snoc (Nat.le_refl _) hB1, hd2.mono hz3⟩, by dsimp only; omega, ?_⟩
      all_goals simp only [List.cons_append, List.nil_append]
      all_goals exact lX
     ·have hil : i = n1.length := by have := of_decide_eq_false hg; omega
      subst hil
      rw [List.take_length] at hok1
      rw [List.drop_length] at hd1
      obtain rfl : d1 = [] := hd1
      simp only [List.take_length, List.append_nil]
      refine gO ?_
      simp only [seval, go_sem, roundK_normal]
      have hP3 := hP3.mono (Zc.trans' hw1 hy1)
      rw [roundsV_succ]
      try simp only [show IntKind.i64.wrap 2 = 2 from rfl]
      refine gO ?_
      try simp only [seval, go_sem, show decide ((2 : Int) < ((2 : Nat) : Int)) = false from rfl]
      refine gO ?_
      simp only [seval, go_sem, roundK_exit]
      refine gO ?_
      (refine FinV.pk 999 [10, 11, 22, 23, 32, 33, 40, 41, 50, 51] ?_); dsimp only
      refine fP ?_
      have u6 := Zc.trans' (Zc.trans' hw0 hy0) (Zc.trans' hw1 hy1)
      have u5 := Zc.trans' hbz6 u6
      have u4 := Zc.trans' hbz5 u5
      have u3 := Zc.trans' hbz4 u4
      have u2 := Zc.trans' hbz3 u3
      have u1 := Zc.trans' hbz2 u2
      have t6 := Zc.trans' hbz06 u6
      have t5 := Zc.trans' haz6 t6
      have t4 := Zc.trans' haz5 t5
      have t3 := Zc.trans' haz4 t4
      have t2 := Zc.trans' haz3 t3
      have t1 := Zc.trans' haz2 t2
      exact ⟨⟨some ⟨bE, 0, none⟩, 2, some ⟨bN, 0, none⟩, 2, ⟨afA, e0.tx.flight.length, [], aqA, e0.tx.queue.length, [], apA, apC, apV, agA, agC, agV, ajA, e0.rx.join.got.length, acA, e0.ctx.queue.length, akA, e0.crx.join.got.length⟩, ⟨bfA, e1.tx.flight.length, [], bqA, e1.tx.queue.length, [], bpA, bpC, bpV, bgA, bgC, bgV, bjA, e1.rx.join.got.length, bcA, e1.ctx.queue.length, bkA, e1.crx.join.got.length⟩, ⟨rA0, n0.length, ms0⟩, ⟨rA1, n1.length, ms1⟩⟩, rfl, rfl,
       ⟨⟨ahf.mono t1, ahq.mono t1, ahpe.mono t5, ahpc, ahge.mono t6, ahgc, Sl.mono t2 ahj, ahc.mono t3, Sl.mono t4 ahk⟩, ⟨bhf.mono u1, bhq.mono u1, bhpe.mono u5, bhpc, bhge.mono u6, bhgc, Sl.mono u2 bhj, bhc.mono u3, Sl.mono u4 bhk⟩, ⟨hok0, Nat.le_refl _⟩, ⟨hok1, Nat.le_refl _⟩⟩⟩
set_option maxHeartbeats 2000000
def endM0 : EndM := ⟨none, 0, [], none, 0, [], none, 0, [], none, 0, [], none, 0, none, 0, none, 0⟩
def zeroE : Value := .agg #[.int .i64 0, .int .i64 0, .slice none 0 0, .int .i64 0, .slice none 0 0, .bool false, .int .i64 0, .bool false, .int .i64 0, .bool false, .int .i64 0, .int .i64 0, .int .i64 0, .slice none 0 0, .bool false, .bool false, .bool false, .int .i64 0, .slice none 0 0, .int .i64 0, .int .i64 0, .bool false, .int .i64 0, .int .i64 0, .slice none 0 0, .bool false, .slice none 0 0, .slice none 0 0]
theorem ends_zero' : (madeCells zeroE.cells 56).toList = endsC end0 end0 endM0 endM0 := by kernel_rfl
theorem ends_zero {z0 : Value} (h : ∃ i, Tryz.prog.info? tyE = some i ∧ i.zero = some z0) : (madeCells z0.cells 56).toList = endsC end0 end0 endM0 endM0 := by
 obtain ⟨i, h1, h2⟩ := h
 have h3 : (Tryz.prog.info? tyE).bind (·.zero) = some zeroE := by kernel_rfl
 rw [h1, Option.bind_some, h2] at h3
 injection h3 with h3
 subst h3
 exact ends_zero'
def WldF (c : Cfg) (w : Wld) (u : Value) (z : Zc) : Prop := ∃ e0 e1 n0 n1 m link, w = ⟨c, [e0, e1], [n0, n1], link⟩ ∧ u = wldV c link m ∧ WldP z e0 e1 n0 n1 m
theorem wldnew_i (c : Cfg) (z : Zc) (hc : CfgI c) : PSpec Tryz.prog 16 [vCfg c] z (WldF c (wldNew c)) := by
 have e : wldNew c = ⟨c, [end0, end0], [[], []], 0⟩ := by unfold wldNew; rw [if_pos (cfgOk_iff.mpr hc)]
 rw [e]
 refine eP k16 ?_
 refine gO ?_
 refine tT ?_; refine callP (cfgok_i c z) rfl rfl ?_; rintro _ _ - ⟨rfl, rfl⟩; refine gO ?_
 simp only [cfgOk_iff.2 hc]
 refine gO ?_
 (with_reducible refine joinV.id ?_; simp only [seval, go_sem])
 repeat' (first | (refine And.intro ?_ ?_ <;> (try simp only [seval, go_sem])) | (refine oth_makeSliceB 10 atyE rfl rfl rfl (n := 2) (by omega) (by omega) (fun bE zE hzE => ?_); simp only [show 2 * 28 = 56 from rfl, ends_zero hzE]; (try simp only [seval, go_sem])) | (refine oth_makeSliceB 11 atyN rfl rfl rfl (n := 2) (by omega) (by omega) (fun bN zN hzN => ?_); simp only [Nat.mul_one, nets_zero hzN]; (try simp only [seval, go_sem])))
 all_goals refine gO ?_
 all_goals refine FinV.frzA 10 rfl RdA.row (fun z5 hz5 hr5 => ?_)
 all_goals dsimp only
 all_goals refine FinV.frzA 11 rfl RdA.row (fun z6 hz6 hr6 => ?_)
 all_goals (first|refine fN ?_|exact fZ)
 all_goals dsimp only at hz6
 all_goals exact ⟨end0, end0, [], [], ⟨some ⟨bE, 0, none⟩, 2, some ⟨bN, 0, none⟩, 2, endM0, endM0, ⟨none, 0, []⟩, ⟨none, 0, []⟩⟩, 0, rfl, rfl, ⟨hr5.mono hz6, hr6, ⟨Sl.nil _ _ _, Sl.nil _ _ _, Sl.nil _ _ _, Sl.nil _ _ _, Sl.nil _ _ _, Sl.nil _ _ _, Sl.nil _ _ _⟩, ⟨Sl.nil _ _ _, Sl.nil _ _ _, Sl.nil _ _ _, Sl.nil _ _ _, Sl.nil _ _ _, Sl.nil _ _ _, Sl.nil _ _ _⟩, Sl.nil _ _ _, Sl.nil _ _ _⟩⟩
set_option maxHeartbeats 4000000
structure RunS where
 i : Nat
 e0 : End
 e1 : End
 n0 : List Msg
 n1 : List Msg
 link : Int
 m : WM
 z : Zc
theorem wldrun_i (Q : Wld → Evt → Prop) (hQ : StepP Q) (c : Cfg) (link : Int) (e0 e1 : End) (n0 n1 : List Msg) (m : WM) (evs : List Evt) (A : Option Addr) (k : Nat) (z : Zc) (hP : WldP z e0 e1 n0 n1 m) (hW : WldI ⟨c, [e0, e1], [n0, n1], link⟩) (hE : Sl eRep z evs (.slice A evs.length k)) (hl : evs.length ≤ 400)
  (hS : ∀ i ev, evs[i]? = some ev → Q (run false ⟨c, [e0, e1], [n0, n1], link⟩ (evs.take i)) ev) : PSpec Tryz.prog 37 [wldV c link m, .slice A evs.length k] z (WldF c (run false ⟨c, [e0, e1], [n0, n1], link⟩ evs)) := by
 obtain ⟨csv, hev, hrv⟩ := Els.one1 hE
 have d4 : decide ((evs.length : Int) > 400) = false := decide_eq_false (by omega)
 refine eP k37 ?_
 refine gO ?_
 refine tT ?_; refine callP (wldok_i c link e0 e1 n0 n1 m z hP hW) rfl rfl ?_; rintro u z1 hz1 rfl; refine gO ?_
 simp only [seval, go_sem, d4]
 refine gO ?_
 refine tT ?_; refine callO 60 (copy_i c link e0 e1 n0 n1 m z1 (hP.mono hz1) hW) rfl rfl rfl ?_; rintro u z2 A' hz2 ⟨m2, rfl, rfl, hR2⟩; refine gO ?_
 refine loopV.tf (Tf.open' 60 [10, 11, 22, 23, 32, 33, 40, 41, 50, 51] rfl rfl rfl) ?_
 simp only [seval, go_sem, zipL]
 have hz02 := Zc.trans' hz1 hz2
 refine loop_upd (ι := RunS) (n := 3) (fun s => z2 ≤ s.z ∧ s.i ≤ evs.length ∧ run false ⟨c, [e0, e1], [n0, n1], link⟩ (evs.take s.i) = ⟨c, [s.e0, s.e1], [s.n0, s.n1], s.link⟩ ∧ WldB s.z s.e0 s.e1 s.n0 s.n1 s.m) (fun s => [(21, .c (.v (.int .i64 s.i)))])
  (fun s => [(0, .cells tyW (wldE c link m)), (1, .cells tyW [.v (.int .i64 0), .v (.int .i64 0), .v (.int .i64 0), .v (.int .i64 0), .v (.int .i64 0), .v (.slice none 0 0), .v (.slice none 0 0), .v (.int .i64 0)]), (2, .cells tyW (wldE c s.link s.m)),
   (10, .own (rowA tyE 28 (.slice s.m.E 2 s.m.EC) 2 (endsC s.e0 s.e1 s.m.m0 s.m.m1))), (11, .own (rowA tyN 1 (.slice s.m.N 2 s.m.NC) 2 [.slice s.m.n0.A s.n0.length s.m.n0.C, .slice s.m.n1.A s.n1.length s.m.n1.C])),
   (22, .own (rowA tyS 1 (.slice s.m.m0.pA s.e0.put.length s.m.m0.pC) s.e0.put.length s.m.m0.pV)), (23, .own (rowA tyS 1 (.slice s.m.m0.gA s.e0.got.length s.m.m0.gC) s.e0.got.length s.m.m0.gV)), (32, .own (rowA tyS 1 (.slice s.m.m1.pA s.e1.put.length s.m.m1.pC) s.e1.put.length s.m.m1.pV)), (33, .own (rowA tyS 1 (.slice s.m.m1.gA s.e1.got.length s.m.m1.gC) s.e1.got.length s.m.m1.gV)),
   (40, .own (rowA tyM 2 (.slice s.m.n0.A s.n0.length s.m.n0.C) s.n0.length (netV s.n0 s.m.n0.ms))), (41, .own (starL (netB s.n0 s.m.n0.ms))), (50, .own (rowA tyM 2 (.slice s.m.n1.A s.n1.length s.m.n1.C) s.n1.length (netV s.n1 s.m.n1.ms))), (51, .own (starL (netB s.n1 s.m.n1.ms)))]) (fun s => s.z) (fun s => evs.length - s.i) ⟨0, e0, e1, n0, n1, link, m2, z2⟩ ⟨Zc.rfl' _, by simp, rfl, hR2⟩ (by (simp only [wrI, wrR, anyL, st, List.append_nil, List.nil_append, List.cons_append]); exact rfl) ?_ ?_
 ·simp only [wldE]
  exact lX
 ·rintro ⟨i, f0, f1, g0, g1, lk, m3, z3⟩ ⟨hz3, hi, hrun, hR3⟩
  dsimp only at *
  simp only [wldE]
  have hW3 := run_I (g := false) (l := evs.take i) hW
  rw [hrun] at hW3
  refine gO ?_
  (with_reducible refine condI.split (fun hg => ?_) (fun hg => ?_) <;> (try simp only [hg]) <;> (try simp only [seval, go_sem]))
  ·have hi' : i < evs.length := by have := of_decide_eq_true hg; omega
   obtain ⟨ev, hx⟩ : ∃ x, evs[i]? = some x := ⟨_, List.getElem?_eq_getElem hi'⟩
   have hSt := hS i ev hx
   rw [hrun] at hSt
   have hz03 := Zc.trans' hz02 hz3
   obtain ⟨c1, ⟨v, rfl, hb⟩, hr1⟩ := (hev.mono hz03).at (hrv.mono hz03) hx
   obtain ⟨A1, k1, rfl, hk1, hB1, hrb⟩ := By.form hb
   have hat : IsAt A := hev.isAt hrv (by decide) hi'
   refine gO ?_
   (refine ⟨⟨by omega, by omega, hat⟩, ?_⟩; (try simp only [seval, go_sem]))
   (refine ldF.agg _ rfl (by first | exact .inl hr1 | exact hr1) ?_; (try simp only [seval, go_sem]))
   refine gO ?_
   (refine callT.give 90 2 2001 rfl rfl (fun bb => ?_)); simp only [seval, go_sem, giveSt, subV, subC, subE, subL]
   refine wD ?_
   refine tT ?_; refine callW 91 (hQ bb c lk f0 f1 g0 g1 m3 ev (.slice A1 ev.data.length k1) z3 hb hR3 hW3 hSt) rfl rfl rfl rfl ?_; rintro v4 z4 A4 hz4 ⟨p0, p1, q0, q1, m5, lk5, hw5, rfl, hR5⟩; (try simp only [seval, go_sem])
   (refine vsI.tf (Tf.open' 91 [92, 10, 11, 22, 23, 32, 33, 40, 41, 50, 51] rfl rfl rfl) ?_); simp only [seval, go_sem, zipL]
   (refine vsI.take' [5] 92 2 2001 rfl rfl rfl ?_); simp only [seval, go_sem, takeSt', unAt, unV, vals]; refine gO ?_
   refine ⟨⟨i + 1, p0, p1, q0, q1, lk5, m5, z4⟩, ⟨Zc.trans' hz3 hz4, by dsimp only; omega, by dsimp only; rw [List.take_add_one, hx]; unfold run at hrun ⊢; rw [List.foldl_append, hrun]; exact hw5, hR5⟩, by dsimp only; omega, ?_⟩
   exact lX
  ·have hil : i = evs.length := by have := of_decide_eq_false hg; omega
   subst hil
   rw [List.take_length] at hrun
   refine gO ?_
   refine callT.tf (Tf.pack 60 [10, 11, 22, 23, 32, 33, 40, 41, 50, 51] (by simp only [popL, look, del, Nat.reduceEqDiff, reduceCtorEq, if_true, if_false, reduceIte, Nat.succ_ne_self]; exact rfl) (by simp only [look, Nat.reduceEqDiff, reduceCtorEq, if_true, if_false, reduceIte])) ?_
   dsimp only
   refine callT.frzA 60 rfl (RdA.wldB hR3) (fun z4 hz4 hP4 => ?_)
   dsimp only at hz4
   have hP4 := hP4 hz4
   simp only [seval, go_sem]
   refine tT ?_; refine callO 61 (copy_i c lk f0 f1 g0 g1 m3 z4 hP4 hW3) rfl rfl rfl ?_; rintro u z5 A' hz5 ⟨m5, rfl, rfl, hR5⟩; refine gO ?_
   refine FinV.frzA 61 rfl (RdA.wldB hR5) (fun z6 hz6 hP6 => ?_)
   (first|refine fN ?_|exact fZ)
   dsimp only at hz6
   rw [hrun]
   exact ⟨f0, f1, g0, g1, m5, lk, rfl, rfl, hP6 hz6⟩
theorem wldstep_i (Q : Wld → Evt → Prop) (hQ : StepP Q) (c : Cfg) (link : Int) (e0 e1 : End) (n0 n1 : List Msg) (m : WM) (ev : Evt) (v : Value) (z : Zc) (hP : WldP z e0 e1 n0 n1 m) (hW : WldI ⟨c, [e0, e1], [n0, n1], link⟩) (hv : By z ev.data v) (hS : Q ⟨c, [e0, e1], [n0, n1], link⟩ ev) : PSpec Tryz.prog 17 [wldV c link m, vEvt ev v] z (WldF c (step false ⟨c, [e0, e1], [n0, n1], link⟩ ev)) := by
 obtain ⟨A, k, rfl, hk, hB, hr⟩ := hv.form
 refine eP k17 ?_
 refine gO ?_
 (first | refine callT.frz 3 rfl rfl (fun b1 z1 hz1 hr1 => ?_) | refine callM.frz 3 rfl rfl (fun b1 z1 hz1 hr1 => ?_)); dsimp only at hz1; simp only [seval, go_sem, Go.Proofs.YtllafcmkppmdgaaGreat.frz, subV, subC, subE, subL]
 have hS1 : ∀ i x, ([ev] : List Evt)[i]? = some x → Q (run false ⟨c, [e0, e1], [n0, n1], link⟩ (([ev] : List Evt).take i)) x := fun i x hx => by
  cases i with
  | zero => simp at hx; subst hx; exact hS
  | succ i => simp at hx
 refine tT ?_; refine callP (wldrun_i Q hQ c link e0 e1 n0 n1 m [ev] (some ⟨b1, 0, none⟩) 1 z1 (hP.mono hz1) hW ⟨_, _, _, rfl, Nat.le_refl _, Els.single (d := eRep) ⟨_, rfl, Sl.mono hz1 hv⟩, hr1⟩ (by simp) hS1) rfl rfl ?_; rintro u z2 hz2 ⟨f0, f1, g0, g1, m3, lk, hw, rfl, hP3⟩; refine gO ?_; (try simp only [seval, go_sem])
 (first|refine fN ?_|exact fZ)
 exact ⟨f0, f1, g0, g1, m3, lk, hw, rfl, hP3⟩
set_option maxHeartbeats 2000000
abbrev ctxL (e : End) (m : EndM) : List Value := [.int .i64 e.ctx.hav, .slice m.cA e.ctx.queue.length m.cC, .int .i64 e.ctx.granted, .int .i64 e.ctx.sent, .bool e.ctx.dead]
theorem forcrd_put {w : Wld} {who : Nat} {e : Evt} (hk : e.kind = 1) : forCrd w who e = if (endAt w who).put.length < 60 then setEnd w who { endAt w who with ctx := (crdPut w.cfg (endAt w who).ctx e.data).1, put := if (crdPut w.cfg (endAt w who).ctx e.data).2 then (endAt w who).put ++ [e.data] else (endAt w who).put } else w := by unfold forCrd; rw [if_pos hk]
theorem crd_put0 (b : Nat) (c : Cfg) (link : Int) (e0 e1 : End) (n0 n1 : List Msg) (m : WM) (ev : Evt) (v : Value) (z : Zc) (hv : By z ev.data v) (hs : ev.data.length ≤ 100000) (hR : WldB z e0 e1 n0 n1 m) (hI : EndI c e0) (hw : ev.who = 0) (hk : ev.kind = 1) :
  Spec Tryz.prog 108 [.pointer (some ⟨b, 0, none⟩), vEvt ev v] z (wldP b c link e0 e1 n0 n1 m) fun _ z' A' => WldQ c (forCrd ⟨c, [e0, e1], [n0, n1], link⟩ 0 ev) b z' A' := by
 obtain ⟨kind, who, at_, vv, data⟩ := ev
 dsimp only at *
 subst hw
 subst hk
 have hp8 := hI.ctx.small
 have hq24 := hI.ctx.queue
 obtain ⟨Av, kv, rfl, hkv, hBv, hrv⟩ := hv.form
 have hbn : forCrd ⟨c, [e0, e1], [n0, n1], link⟩ 0 ⟨1, 0, at_, vv, data⟩ = if e0.put.length < 60 then ⟨c, [e0, e1].set 0 { e0 with ctx := (crdPut c e0.ctx data).1, put := if (crdPut c e0.ctx data).2 then e0.put ++ [data] else e0.put }, [n0, n1], link⟩ else ⟨c, [e0, e1], [n0, n1], link⟩ := forcrd_put rfl
 rw [hbn]
 clear hbn
 refine eQ kyI k108 ?_
 refine vsI.atR 10 rfl fun hE => ?_
 have hE := hE (by omega)
 refine gO ?_
 ((first | refine ⟨⟨by omega, hE⟩, ?_⟩ | refine ⟨hE, ?_⟩); (try simp only [seval, go_sem]))
 refine gO ?_
 (refine ldF.one _ (RdS.cell 10 rfl rfl) ?_; refine gO ?_)
 by_cases h60 : e0.put.length < 60
 ·have d1 : decide ((e0.put.length : Int) < 60) = true := decide_eq_true (by omega)
  rw [if_pos h60]
  simp only [d1]
  refine gO ?_
  refine ldF.agg (sz := 5) (ctxL e0 m.m0) rfl (RdS.part 10 rfl (fun i u hu => ends_sub (l1 := (endsC e0 e1 m.m0 m.m1).take (28 * 0 + 17)) (l3 := (endsC e0 e1 m.m0 m.m1).drop (28 * 0 + 22)) rfl rfl hu)) ?_
  refine gO ?_
  have hc := crdput_i c e0.ctx data _ _ z hR.e0.cq (by omega) (fun p hp => by have := hp8 p hp; omega) hv hs
  simp only [crdPutG_ok hI.ctx] at hc
  generalize crdPut c e0.ctx data = tp at *
  obtain ⟨⟨hav, qu, granted, sent, dead⟩, ok⟩ := tp
  dsimp only at hc
  refine tT ?_; refine callP (hc) rfl rfl ?_; rintro u z1 hz1 ⟨_, rfl, qA, qC, qcs, rfl, hqc, hqe, hqr⟩; refine gO ?_
  have hq1 : Sl pRep z1 qu (.slice qA qu.length qC) := ⟨_, _, _, rfl, hqc, hqe, hqr⟩
  have hR1 : WldB z1 e0 e1 n0 n1 m := hR.mono hz1
  (refine stoV_row 10 rfl rfl rfl rfl rfl rfl rfl (by rw [endsC_len]; simp) ?_; simp only [seval, go_sem, ends_ctx0]; refine gO ?_)
  have hR2 : WldB z1 { e0 with ctx := ⟨hav, qu, granted, sent, dead⟩ } e1 n0 n1 { m with m0 := { m.m0 with cA := qA, cC := qC } } := ⟨{ hR1.e0 with cq := hq1 }, hR1.e1, hR.n0, hR.n1⟩
  cases ok
  ·refine gO ?_
   refine wF1 ?_
   exact ⟨_, _, n0, n1, { m with m0 := { m.m0 with cA := qA, cC := qC } }, link, rfl, rfl, hR2⟩
  ·refine gO ?_
   (with_reducible refine joinV.id ?_; simp only [seval, go_sem])
   repeat' (first | (refine And.intro ?_ ?_ <;> (try simp only [seval, go_sem])) | (refine ldF.one _ (RdS.cell 10 rfl rfl) ?_; refine gO ?_))
   all_goals refine tT ?_; refine callP (cloneBy data _ z1 (hv.mono hz1) (by omega)) rfl rfl ?_; rintro v3 z3 hz3 ⟨A5, rfl, hB5, hr5⟩; refine gO ?_
   repeat' (first | (refine And.intro ?_ ?_ <;> (try simp only [seval, go_sem])) | (refine ldF.one _ (RdS.cell 10 rfl rfl) ?_; refine gO ?_))
   all_goals refine aT ?_; (refine appM_newF 22 atyS rfl rfl rfl rfl rfl rfl rfl (by simp [Value.oneCell']) (by omega) (fun A6 c6 hc6 hat6 => ?_)); refine gO ?_
   all_goals (refine stoV_row 10 rfl rfl rfl rfl rfl rfl rfl (by rw [endsC_len]; simp) ?_; refine gO ?_)
   all_goals refine wF1 ?_
   all_goals rw [ends_put0 _ _ _ _ (e0.put ++ [data]) _ _ _ (by simp)]
   all_goals have hR3 := hR2.mono hz3
   all_goals refine ⟨_, _, n0, n1, { m with m0 := { m.m0 with cA := qA, cC := qC, pA := A6, pC := c6, pV := m.m0.pV ++ [.slice A5 data.length data.length] } }, link, rfl, ?_, ⟨{ hR3.e0 with pu := hR3.e0.pu.append (Els.single (d := sduRep) ⟨_, rfl, By.mk (Nat.le_refl _) hB5 hr5⟩), pc := by simp; exact hc6 }, hR3.e1, hR.n0, hR.n1⟩⟩
   all_goals simp only [wldP, wldL, if_true, List.length_append, List.length_singleton]
   all_goals rfl
 ·have d1 : decide ((e0.put.length : Int) < 60) = false := decide_eq_false (by omega)
  rw [if_neg h60]
  simp only [d1]
  refine gO ?_
  refine wF1 ?_
  exact WldQ.mk hR
theorem crd_put1 (b : Nat) (c : Cfg) (link : Int) (e0 e1 : End) (n0 n1 : List Msg) (m : WM) (ev : Evt) (v : Value) (z : Zc) (hv : By z ev.data v) (hs : ev.data.length ≤ 100000) (hR : WldB z e0 e1 n0 n1 m) (hI : EndI c e1) (hw : ev.who = 1) (hk : ev.kind = 1) :
  Spec Tryz.prog 108 [.pointer (some ⟨b, 0, none⟩), vEvt ev v] z (wldP b c link e0 e1 n0 n1 m) fun _ z' A' => WldQ c (forCrd ⟨c, [e0, e1], [n0, n1], link⟩ 1 ev) b z' A' := by
 obtain ⟨kind, who, at_, vv, data⟩ := ev
 dsimp only at *
 subst hw
 subst hk
 have hp8 := hI.ctx.small
 have hq24 := hI.ctx.queue
 obtain ⟨Av, kv, rfl, hkv, hBv, hrv⟩ := hv.form
 have hbn : forCrd ⟨c, [e0, e1], [n0, n1], link⟩ 1 ⟨1, 1, at_, vv, data⟩ = if e1.put.length < 60 then ⟨c, [e0, e1].set 1 { e1 with ctx := (crdPut c e1.ctx data).1, put := if (crdPut c e1.ctx data).2 then e1.put ++ [data] else e1.put }, [n0, n1], link⟩ else ⟨c, [e0, e1], [n0, n1], link⟩ := forcrd_put rfl
 rw [hbn]
 clear hbn
 refine eQ kyI k108 ?_
 refine vsI.atR 10 rfl fun hE => ?_
 have hE := hE (by omega)
 refine gO ?_
 ((first | refine ⟨⟨by omega, hE⟩, ?_⟩ | refine ⟨hE, ?_⟩); (try simp only [seval, go_sem]))
 refine gO ?_
 (refine ldF.one _ (RdS.cell 10 rfl rfl) ?_; refine gO ?_)
 by_cases h60 : e1.put.length < 60
 ·have d1 : decide ((e1.put.length : Int) < 60) = true := decide_eq_true (by omega)
  rw [if_pos h60]
  simp only [d1]
  refine gO ?_
  refine ldF.agg (sz := 5) (ctxL e1 m.m1) rfl (RdS.part 10 rfl (fun i u hu => ends_sub (l1 := (endsC e0 e1 m.m0 m.m1).take (28 * 1 + 17)) (l3 := (endsC e0 e1 m.m0 m.m1).drop (28 * 1 + 22)) rfl rfl hu)) ?_
  refine gO ?_
  have hc := crdput_i c e1.ctx data _ _ z hR.e1.cq (by omega) (fun p hp => by have := hp8 p hp; omega) hv hs
  simp only [crdPutG_ok hI.ctx] at hc
  generalize crdPut c e1.ctx data = tp at *
  obtain ⟨⟨hav, qu, granted, sent, dead⟩, ok⟩ := tp
  dsimp only at hc
  refine tT ?_; refine callP (hc) rfl rfl ?_; rintro u z1 hz1 ⟨_, rfl, qA, qC, qcs, rfl, hqc, hqe, hqr⟩; refine gO ?_
  have hq1 : Sl pRep z1 qu (.slice qA qu.length qC) := ⟨_, _, _, rfl, hqc, hqe, hqr⟩
  have hR1 : WldB z1 e0 e1 n0 n1 m := hR.mono hz1
  (refine stoV_row 10 rfl rfl rfl rfl rfl rfl rfl (by rw [endsC_len]; simp) ?_; simp only [seval, go_sem, ends_ctx1]; refine gO ?_)
  have hR2 : WldB z1 e0 { e1 with ctx := ⟨hav, qu, granted, sent, dead⟩ } n0 n1 { m with m1 := { m.m1 with cA := qA, cC := qC } } := ⟨hR1.e0, { hR1.e1 with cq := hq1 }, hR.n0, hR.n1⟩
  cases ok
  ·refine gO ?_
   refine wF1 ?_
   exact ⟨_, _, n0, n1, { m with m1 := { m.m1 with cA := qA, cC := qC } }, link, rfl, rfl, hR2⟩
  ·refine gO ?_
   (with_reducible refine joinV.id ?_; simp only [seval, go_sem])
   repeat' (first | (refine And.intro ?_ ?_ <;> (try simp only [seval, go_sem])) | (refine ldF.one _ (RdS.cell 10 rfl rfl) ?_; refine gO ?_))
   all_goals refine tT ?_; refine callP (cloneBy data _ z1 (hv.mono hz1) (by omega)) rfl rfl ?_; rintro v3 z3 hz3 ⟨A5, rfl, hB5, hr5⟩; refine gO ?_
   repeat' (first | (refine And.intro ?_ ?_ <;> (try simp only [seval, go_sem])) | (refine ldF.one _ (RdS.cell 10 rfl rfl) ?_; refine gO ?_))
   all_goals refine aT ?_; (refine appM_newF 32 atyS rfl rfl rfl rfl rfl rfl rfl (by simp [Value.oneCell']) (by omega) (fun A6 c6 hc6 hat6 => ?_)); refine gO ?_
   all_goals (refine stoV_row 10 rfl rfl rfl rfl rfl rfl rfl (by rw [endsC_len]; simp) ?_; refine gO ?_)
   all_goals refine wF1 ?_
   all_goals rw [ends_put1 _ _ _ _ (e1.put ++ [data]) _ _ _ (by simp)]
   all_goals have hR3 := hR2.mono hz3
   all_goals refine ⟨_, _, n0, n1, { m with m1 := { m.m1 with cA := qA, cC := qC, pA := A6, pC := c6, pV := m.m1.pV ++ [.slice A5 data.length data.length] } }, link, rfl, ?_, ⟨hR3.e0, { hR3.e1 with pu := hR3.e1.pu.append (Els.single (d := sduRep) ⟨_, rfl, By.mk (Nat.le_refl _) hB5 hr5⟩), pc := by simp; exact hc6 }, hR.n0, hR.n1⟩⟩
   all_goals simp only [wldP, wldL, if_true, List.length_append, List.length_singleton]
   all_goals rfl
 ·have d1 : decide ((e1.put.length : Int) < 60) = false := decide_eq_false (by omega)
  rw [if_neg h60]
  simp only [d1]
  refine gO ?_
  refine wF1 ?_
  exact WldQ.mk hR
end Go.Proofs.YtllafcmkppmdgaaGreat
