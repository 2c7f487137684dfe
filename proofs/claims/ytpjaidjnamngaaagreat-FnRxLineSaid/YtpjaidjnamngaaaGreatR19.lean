/- A frame that is on its way is bent, by the reference. · Two ends move to another link, by the reference. -/
import Derived.Test.YtpjaidjnamngaaaGreatR18
import Derived.Test.YtpjaidjnamngaaaGreatR15
import Derived.Test.YtpjaidjnamngaaaGreatR14
namespace Go.Proofs.YtpjaidjnamngaaaGreat
open Go.RowKit
set_option linter.unusedVariables false
set_option linter.unusedSimpArgs false
set_option maxRecDepth 100000
set_option maxHeartbeats 1000000
theorem RdS.part {z : Zc} {L : Ents} {A : Option Addr} {o : Nat} {us : List Value} (k : Nat) {e sz n c : Nat} {cs : List Value} (hk : look k L = some (.own (rowA e sz (.slice A n c) n cs))) (h : ∀ i u, us[i]? = some u → cs[o + i]? = some u) : RdS z L A o us := .inr ⟨k, e, sz, n, c, cs, hk, h⟩
theorem bc_get {l : List Int} {i : Nat} (h : i < l.length) : (bc l)[i]? = some (.int .u8 (l.getD i 0)) := by
  simp [bc, List.getD, h]
theorem bc_set {l : List Int} {i : Nat} {x : Int} (h : i < l.length) : putV (bc l) i [.int .u8 x] = bc (l.set i x) := by
  simp only [putV, bc, ← List.map_take, ← List.map_drop, List.length_singleton, List.singleton_append]
  rw [List.set_eq_take_append_cons_drop, if_pos h]
  simp
theorem bend_bits {l : List Int} {i : Nat} {v : Int} (hb : Bys l) (h : i < l.length) (hv : 1 ≤ v ∧ v ≤ 255) : bits .xor .u8 (l.getD i 0) (IntKind.u8.wrap v) = (((l.getD i 0).toNat ^^^ v.toNat : Nat) : Int) := by
  have hx : 0 ≤ l.getD i 0 ∧ l.getD i 0 ≤ 255 := by
    have := hb (l.getD i 0) (by simp [List.getD, h])
    exact this
  generalize l.getD i 0 = x at hx
  obtain ⟨a, rfl⟩ := Int.eq_ofNat_of_zero_le hx.1
  obtain ⟨b, rfl⟩ := Int.eq_ofNat_of_zero_le (show 0 ≤ v by omega)
  rw [show IntKind.u8.wrap (b : Int) = (b : Int) by rw [IntKind.wrap_u8]; omega, bits_xor_u8 a b (by omega) (by omega)]
  rfl
theorem bend_bys {l : List Int} {i : Nat} {v : Int} (hb : Bys l) (h : i < l.length) (hv : 1 ≤ v ∧ v ≤ 255) : Bys (l.set i (((l.getD i 0).toNat ^^^ v.toNat : Nat) : Int)) := by
  have hx : 0 ≤ l.getD i 0 ∧ l.getD i 0 ≤ 255 := by
    have := hb (l.getD i 0) (by simp [List.getD, h])
    exact this
  intro y hy
  rcases List.mem_or_eq_of_mem_set hy with hy | rfl
  · exact hb y hy
  · have := Nat.xor_lt_two_pow (n := 8) (x := (l.getD i 0).toNat) (y := v.toNat) (by omega) (by omega)
    omega
theorem starL_tie {w : World} {A : Asrt} {As : List Asrt} {F : Nat → Prop} (h : (starL [A, starL As]).holds w F) : (starL (A :: As)).holds w F := by
  obtain ⟨F1, F2, h1, h2, hd, hF⟩ := h
  exact ⟨F1, F2, h1, starA_emp h2, hd, hF⟩
def bendL (l : List Msg) (a v : Int) : List Msg := match l with
  | [] => []
  | x :: l => bendM x a v :: l
theorem bendL_cons (x : Msg) (l : List Msg) (a v : Int) : bendL (x :: l) a v = bendM x a v :: l := rfl
theorem l9bend0 (c : Cfg) (link : Int) (e0 e1 : End) (n0 n1 : List Msg) (m : WM) (ev : Evt) (v : Value) (z : Zc) (hv : By z ev.data v) (hR : WldR z e0 e1 n0 n1 m) (hN : NetI n0) (hw : ev.who = 0) (hk : ev.kind = 9) :
    Spec Tryz.prog 90 [wldV c link m, vEvt ev v] z (wldA e0 e1 n0 n1 m) (WldH c ⟨c, [e0, e1], [n0, n1].set 0 (bendL n0 ev.at_ ev.v), link⟩) := by
  obtain ⟨kind, who, at_, vv, data⟩ := ev
  dsimp only at *
  subst hw
  subst hk
  obtain ⟨Av, kv, rfl, hkv, hBv, hrv⟩ := hv.form
  obtain ⟨E, EC, N, NC, m0, m1, ⟨A0, C0, ms0⟩, ⟨A1, C1, ms1⟩⟩ := m
  have hok := hR.n0.ok
  have hcap := hR.n0.cap
  dsimp only at hok hcap
  by_cases hP : ∃ x l, n0 = x :: l ∧ x.bent = false ∧ (0 ≤ at_ ∧ at_ < x.bytes.length) ∧ 1 ≤ vv ∧ vv ≤ 255
  · obtain ⟨⟨bent, bytes⟩, rest, rfl, hbn, hat, hvv⟩ := hP
    dsimp only at hbn hat
    subst hbn
    cases ms0 with
    | nil => exact hok.elim
    | cons x ms =>
      obtain ⟨a, cb⟩ := x
      obtain ⟨⟨hb1, hb2⟩, hok2⟩ := hok
      dsimp only at hb1 hb2
      have h15 : bytes.length ≤ 15 := hN.2 ⟨false, bytes⟩ (by simp)
      obtain ⟨i, rfl⟩ := Int.eq_ofNat_of_zero_le hat.1
      have hi : i < bytes.length := by omega
      have hbe : bysA bytes a cb = rowA tyB 1 (.slice a bytes.length cb) bytes.length (bc bytes) := by unfold bysA; rw [if_neg (List.ne_nil_of_length_pos (by omega))]
      (refine spec_enterL [10, 11, 20, 21, 22, 23, 30, 31, 32, 33, 40, 41, 50, 51] Tryz.func90 ic90_ok fr90_ok Tryz.ntmps90 rfl ?_; simp only [seval, go_sem, ic90, fr90, zipL])
      refine vsI.atR 11 rfl fun hA => ?_
      have hA := hA (by omega)
      refine vsI.atR 40 rfl fun hA2 => ?_
      have hA2 := hA2 (by simp)
      refine vsI.tf (Tf.split 41 46 rfl rfl rfl) ?_
      dsimp only
      simp only [hbe]
      refine vsI.atR 46 rfl fun hA3 => ?_
      have hA3 := hA3 (by omega)
      ((try simp only [seval, go_sem]);repeat((with_reducible first|refine vJ ?_|refine vK ?_);try simp only [seval, go_sem]))
      ((first | refine ⟨⟨by omega, hA⟩, ?_⟩ | refine ⟨hA, ?_⟩); (try simp only [seval, go_sem]))
      (refine ldF.one _ (RdS.cell 11 rfl rfl) ?_; ((try simp only [seval, go_sem]);repeat((with_reducible first|refine vJ ?_|refine vK ?_);try simp only [seval, go_sem])))
      (with_reducible refine condI.split (fun hg => ?_) (fun hg => ?_) <;> (try simp only [hg]) <;> (try simp only [seval, go_sem]))
      · exfalso
        simp at hg
        omega
      ((try simp only [seval, go_sem]);repeat((with_reducible first|refine vJ ?_|refine vK ?_);try simp only [seval, go_sem]))
      ((first | refine ⟨⟨by omega, hA⟩, ?_⟩ | refine ⟨hA, ?_⟩); (try simp only [seval, go_sem]))
      (refine ldF.one _ (RdS.cell 11 rfl rfl) ?_; ((try simp only [seval, go_sem]);repeat((with_reducible first|refine vJ ?_|refine vK ?_);try simp only [seval, go_sem])))
      refine ⟨⟨by simp, hA2⟩, ?_⟩
      refine ldF.agg (sz := 2) [.bool false, .slice a bytes.length cb] rfl (RdS.part 40 rfl (fun i u hu => by rw [Nat.zero_add]; match i, hu with | 0, hu => exact hu | 1, hu => exact hu)) ?_
      ((try simp only [seval, go_sem]);repeat((with_reducible first|refine vJ ?_|refine vK ?_);try simp only [seval, go_sem]))
      have w1 : IntKind.i64.wrap ((bytes.length : Int) - 1) = (bytes.length : Int) - 1 := wrap_in (by omega) (by omega)
      have i1 : inB (i : Int) 0 ((bytes.length : Int) - 1) = true := inB_iff.2 ⟨by omega, by omega⟩
      have i2 : inB vv 1 255 = true := inB_iff.2 hvv
      try simp only [w1]
      (try with_reducible refine callM.toT ?_); refine callP (in_s (i : Int) 0 ((bytes.length : Int) - 1) z) rfl rfl ?_; rintro _ _ - ⟨rfl, rfl⟩; ((try simp only [seval, go_sem]);repeat((with_reducible first|refine vJ ?_|refine vK ?_);try simp only [seval, go_sem]))
      simp only [i1]
      ((try simp only [seval, go_sem]);repeat((with_reducible first|refine vJ ?_|refine vK ?_);try simp only [seval, go_sem]))
      (try with_reducible refine callM.toT ?_); refine callP (in_s vv 1 255 z) rfl rfl ?_; rintro _ _ - ⟨rfl, rfl⟩; ((try simp only [seval, go_sem]);repeat((with_reducible first|refine vJ ?_|refine vK ?_);try simp only [seval, go_sem]))
      simp only [i2]
      ((try simp only [seval, go_sem]);repeat((with_reducible first|refine vJ ?_|refine vK ?_);try simp only [seval, go_sem]))
      refine ⟨⟨by omega, by omega, hA3⟩, ?_⟩
      (try simp only [seval, go_sem])
      simp only [Nat.mul_one]
      refine ldF.one _ (RdS.cell 46 rfl (bc_get hi)) ?_
      ((try simp only [seval, go_sem]);repeat((with_reducible first|refine vJ ?_|refine vK ?_);try simp only [seval, go_sem]))
      refine ⟨⟨by omega, by omega, hA3⟩, ?_⟩
      (try simp only [seval, go_sem])
      simp only [Nat.mul_one]
      rw [bend_bits hb2 hi hvv]
      refine stoV_row 46 rfl rfl rfl rfl rfl rfl rfl (by simp only [bc, List.length_map, List.length_singleton]; omega) ?_
      rw [bc_set hi]
      ((try simp only [seval, go_sem]);repeat((with_reducible first|refine vJ ?_|refine vK ?_);try simp only [seval, go_sem]))
      ((first | refine ⟨⟨by omega, hA⟩, ?_⟩ | refine ⟨hA, ?_⟩); (try simp only [seval, go_sem]))
      (refine ldF.one _ (RdS.cell 11 rfl rfl) ?_; ((try simp only [seval, go_sem]);repeat((with_reducible first|refine vJ ?_|refine vK ?_);try simp only [seval, go_sem])))
      refine ⟨⟨by simp, hA2⟩, ?_⟩
      refine stoV_row 40 rfl rfl rfl rfl rfl rfl rfl (by simp [netV]) ?_
      simp only [seval, go_sem, putV]
      ((try simp only [seval, go_sem]);repeat((with_reducible first|refine vJ ?_|refine vK ?_);try simp only [seval, go_sem]))
      (refine FinV.pk 97 [46, 41] ?_); dsimp only
      refine FinV.tf (Tf.own 97 rfl rfl (fun w F h => starL_tie h)) ?_
      dsimp only
      (refine FinV.pk 999 [10, 11, 20, 21, 22, 23, 30, 31, 32, 33, 40, 97, 50, 51] ?_); dsimp only
      (((try simp only [seval, go_sem]);repeat((with_reducible first|refine vJ ?_|refine vK ?_);try simp only [seval, go_sem])); refine FinV.own 999 rfl ?_; simp only [finE, finS, gt, look, SV.toV, SC.toV, allV, tupV, zq1, zq2, zq3, zq4, Nat.reduceAdd, Nat.reduceEqDiff, reduceCtorEq, if_true, if_false, reduceIte, Nat.succ_ne_self, true_and, zq5, zq7, zq8])
      have hbm : bendM ⟨false, bytes⟩ (i : Int) vv = ⟨true, bytes.set i (((bytes.getD i 0).toNat ^^^ vv.toNat : Nat) : Int)⟩ := by unfold bendM; rw [if_pos ⟨by omega, by exact hat.2, hvv.1, hvv.2, rfl⟩]; rfl
      rw [bendL_cons, hbm]
      have hbe' : bysA (bytes.set i (((bytes.getD i 0).toNat ^^^ vv.toNat : Nat) : Int)) a cb = rowA tyB 1 (.slice a bytes.length cb) bytes.length (bc (bytes.set i (((bytes.getD i 0).toNat ^^^ vv.toNat : Nat) : Int))) := by
        unfold bysA
        rw [if_neg (List.ne_nil_of_length_pos (by rw [List.length_set]; omega)), List.length_set]
      refine ⟨e0, e1, _, _, ⟨E, EC, N, NC, m0, m1, ⟨A0, C0, (a, cb) :: ms⟩, ⟨A1, C1, ms1⟩⟩, rfl, rfl, rfl, rfl, ?_, ?_⟩
      · simp only [wldA, netB, netV, hbe', List.length_set]
        rfl
      · have hbx := bend_bys hb2 hi hvv
        exact ⟨hR.e0, hR.e1, ⟨⟨⟨by rw [List.length_set]; exact hb1, hbx⟩, hok2⟩, hcap⟩, hR.n1⟩
  · have hsame : ∀ x l, n0 = x :: l → bendM x at_ vv = x := fun x l e => by
      unfold bendM
      rw [if_neg (fun h => hP ⟨x, l, e, h.2.2.2.2, ⟨h.1, h.2.1⟩, h.2.2.1, h.2.2.2.1⟩)]
    (refine spec_enterL [10, 11, 20, 21, 22, 23, 30, 31, 32, 33, 40, 41, 50, 51] Tryz.func90 ic90_ok fr90_ok Tryz.ntmps90 rfl ?_; simp only [seval, go_sem, ic90, fr90, zipL])
    refine vsI.atR 11 rfl fun hA => ?_
    have hA := hA (by omega)
    refine vsI.atR 40 rfl fun hA2 => ?_
    ((try simp only [seval, go_sem]);repeat((with_reducible first|refine vJ ?_|refine vK ?_);try simp only [seval, go_sem]))
    ((first | refine ⟨⟨by omega, hA⟩, ?_⟩ | refine ⟨hA, ?_⟩); (try simp only [seval, go_sem]))
    (refine ldF.one _ (RdS.cell 11 rfl rfl) ?_; ((try simp only [seval, go_sem]);repeat((with_reducible first|refine vJ ?_|refine vK ?_);try simp only [seval, go_sem])))
    (with_reducible refine condI.split (fun hg => ?_) (fun hg => ?_) <;> (try simp only [hg]) <;> (try simp only [seval, go_sem]))
    · have h0 : n0 = [] := List.eq_nil_of_length_eq_zero (by simp at hg; simp [hg])
      ((try simp only [seval, go_sem]);repeat((with_reducible first|refine vJ ?_|refine vK ?_);try simp only [seval, go_sem]))
      (refine FinV.pk 999 [10, 11, 20, 21, 22, 23, 30, 31, 32, 33, 40, 41, 50, 51] ?_); dsimp only
      (((try simp only [seval, go_sem]);repeat((with_reducible first|refine vJ ?_|refine vK ?_);try simp only [seval, go_sem])); refine FinV.own 999 rfl ?_; simp only [finE, finS, gt, look, SV.toV, SC.toV, allV, tupV, zq1, zq2, zq3, zq4, Nat.reduceAdd, Nat.reduceEqDiff, reduceCtorEq, if_true, if_false, reduceIte, Nat.succ_ne_self, true_and, zq5, zq7, zq8])
      subst h0
      exact WldH.mk hR
    · cases n0 with
      | nil => simp at hg
      | cons msg rest =>
        obtain ⟨bent, bytes⟩ := msg
        have h15 : bytes.length ≤ 15 := hN.2 ⟨bent, bytes⟩ (by simp)
        have hA2 := hA2 (by simp)
        cases ms0 with
        | nil => exact hok.elim
        | cons x ms =>
          obtain ⟨a, cb⟩ := x
          have hsm := hsame _ _ rfl
          have w1 : IntKind.i64.wrap ((bytes.length : Int) - 1) = (bytes.length : Int) - 1 := wrap_in (by omega) (by omega)
          ((try simp only [seval, go_sem]);repeat((with_reducible first|refine vJ ?_|refine vK ?_);try simp only [seval, go_sem]))
          ((first | refine ⟨⟨by omega, hA⟩, ?_⟩ | refine ⟨hA, ?_⟩); (try simp only [seval, go_sem]))
          (refine ldF.one _ (RdS.cell 11 rfl rfl) ?_; ((try simp only [seval, go_sem]);repeat((with_reducible first|refine vJ ?_|refine vK ?_);try simp only [seval, go_sem])))
          refine ⟨⟨by simp, hA2⟩, ?_⟩
          refine ldF.agg (sz := 2) [.bool bent, .slice a bytes.length cb] rfl (RdS.part 40 rfl (fun i u hu => by rw [Nat.zero_add]; match i, hu with | 0, hu => exact hu | 1, hu => exact hu)) ?_
          cases bent
          · ((try simp only [seval, go_sem]);repeat((with_reducible first|refine vJ ?_|refine vK ?_);try simp only [seval, go_sem]))
            try simp only [w1]
            (try with_reducible refine callM.toT ?_); refine callP (in_s at_ 0 ((bytes.length : Int) - 1) z) rfl rfl ?_; rintro _ _ - ⟨rfl, rfl⟩; ((try simp only [seval, go_sem]);repeat((with_reducible first|refine vJ ?_|refine vK ?_);try simp only [seval, go_sem]))
            cases h1 : inB at_ 0 ((bytes.length : Int) - 1)
            · ((try simp only [seval, go_sem]);repeat((with_reducible first|refine vJ ?_|refine vK ?_);try simp only [seval, go_sem]))
              (refine FinV.pk 999 [10, 11, 20, 21, 22, 23, 30, 31, 32, 33, 40, 41, 50, 51] ?_); dsimp only
              (((try simp only [seval, go_sem]);repeat((with_reducible first|refine vJ ?_|refine vK ?_);try simp only [seval, go_sem])); refine FinV.own 999 rfl ?_; simp only [finE, finS, gt, look, SV.toV, SC.toV, allV, tupV, zq1, zq2, zq3, zq4, Nat.reduceAdd, Nat.reduceEqDiff, reduceCtorEq, if_true, if_false, reduceIte, Nat.succ_ne_self, true_and, zq5, zq7, zq8])
              rw [bendL_cons, hsm]
              exact WldH.mk hR
            · ((try simp only [seval, go_sem]);repeat((with_reducible first|refine vJ ?_|refine vK ?_);try simp only [seval, go_sem]))
              (try with_reducible refine callM.toT ?_); refine callP (in_s vv 1 255 z) rfl rfl ?_; rintro _ _ - ⟨rfl, rfl⟩; ((try simp only [seval, go_sem]);repeat((with_reducible first|refine vJ ?_|refine vK ?_);try simp only [seval, go_sem]))
              cases h2 : inB vv 1 255
              · ((try simp only [seval, go_sem]);repeat((with_reducible first|refine vJ ?_|refine vK ?_);try simp only [seval, go_sem]))
                (refine FinV.pk 999 [10, 11, 20, 21, 22, 23, 30, 31, 32, 33, 40, 41, 50, 51] ?_); dsimp only
                (((try simp only [seval, go_sem]);repeat((with_reducible first|refine vJ ?_|refine vK ?_);try simp only [seval, go_sem])); refine FinV.own 999 rfl ?_; simp only [finE, finS, gt, look, SV.toV, SC.toV, allV, tupV, zq1, zq2, zq3, zq4, Nat.reduceAdd, Nat.reduceEqDiff, reduceCtorEq, if_true, if_false, reduceIte, Nat.succ_ne_self, true_and, zq5, zq7, zq8])
                rw [bendL_cons, hsm]
                exact WldH.mk hR
              · exfalso
                rw [inB_iff] at h1 h2
                exact hP ⟨⟨false, bytes⟩, rest, rfl, rfl, ⟨h1.1, by have := h1.2; show at_ < (bytes.length : Int); omega⟩, h2.1, h2.2⟩
          · ((try simp only [seval, go_sem]);repeat((with_reducible first|refine vJ ?_|refine vK ?_);try simp only [seval, go_sem]))
            (refine FinV.pk 999 [10, 11, 20, 21, 22, 23, 30, 31, 32, 33, 40, 41, 50, 51] ?_); dsimp only
            (((try simp only [seval, go_sem]);repeat((with_reducible first|refine vJ ?_|refine vK ?_);try simp only [seval, go_sem])); refine FinV.own 999 rfl ?_; simp only [finE, finS, gt, look, SV.toV, SC.toV, allV, tupV, zq1, zq2, zq3, zq4, Nat.reduceAdd, Nat.reduceEqDiff, reduceCtorEq, if_true, if_false, reduceIte, Nat.succ_ne_self, true_and, zq5, zq7, zq8])
            rw [bendL_cons, hsm]
            exact WldH.mk hR
theorem l9bend1 (c : Cfg) (link : Int) (e0 e1 : End) (n0 n1 : List Msg) (m : WM) (ev : Evt) (v : Value) (z : Zc) (hv : By z ev.data v) (hR : WldR z e0 e1 n0 n1 m) (hN : NetI n1) (hw : ev.who = 1) (hk : ev.kind = 9) :
    Spec Tryz.prog 90 [wldV c link m, vEvt ev v] z (wldA e0 e1 n0 n1 m) (WldH c ⟨c, [e0, e1], [n0, n1].set 1 (bendL n1 ev.at_ ev.v), link⟩) := by
  obtain ⟨kind, who, at_, vv, data⟩ := ev
  dsimp only at *
  subst hw
  subst hk
  obtain ⟨Av, kv, rfl, hkv, hBv, hrv⟩ := hv.form
  obtain ⟨E, EC, N, NC, m0, m1, ⟨A0, C0, ms0⟩, ⟨A1, C1, ms1⟩⟩ := m
  have hok := hR.n1.ok
  have hcap := hR.n1.cap
  dsimp only at hok hcap
  by_cases hP : ∃ x l, n1 = x :: l ∧ x.bent = false ∧ (0 ≤ at_ ∧ at_ < x.bytes.length) ∧ 1 ≤ vv ∧ vv ≤ 255
  · obtain ⟨⟨bent, bytes⟩, rest, rfl, hbn, hat, hvv⟩ := hP
    dsimp only at hbn hat
    subst hbn
    cases ms1 with
    | nil => exact hok.elim
    | cons x ms =>
      obtain ⟨a, cb⟩ := x
      obtain ⟨⟨hb1, hb2⟩, hok2⟩ := hok
      dsimp only at hb1 hb2
      have h15 : bytes.length ≤ 15 := hN.2 ⟨false, bytes⟩ (by simp)
      obtain ⟨i, rfl⟩ := Int.eq_ofNat_of_zero_le hat.1
      have hi : i < bytes.length := by omega
      have hbe : bysA bytes a cb = rowA tyB 1 (.slice a bytes.length cb) bytes.length (bc bytes) := by unfold bysA; rw [if_neg (List.ne_nil_of_length_pos (by omega))]
      (refine spec_enterL [10, 11, 20, 21, 22, 23, 30, 31, 32, 33, 40, 41, 50, 51] Tryz.func90 ic90_ok fr90_ok Tryz.ntmps90 rfl ?_; simp only [seval, go_sem, ic90, fr90, zipL])
      refine vsI.atR 11 rfl fun hA => ?_
      have hA := hA (by omega)
      refine vsI.atR 50 rfl fun hA2 => ?_
      have hA2 := hA2 (by simp)
      refine vsI.tf (Tf.split 51 46 rfl rfl rfl) ?_
      dsimp only
      simp only [hbe]
      refine vsI.atR 46 rfl fun hA3 => ?_
      have hA3 := hA3 (by omega)
      ((try simp only [seval, go_sem]);repeat((with_reducible first|refine vJ ?_|refine vK ?_);try simp only [seval, go_sem]))
      ((first | refine ⟨⟨by omega, hA⟩, ?_⟩ | refine ⟨hA, ?_⟩); (try simp only [seval, go_sem]))
      (refine ldF.one _ (RdS.cell 11 rfl rfl) ?_; ((try simp only [seval, go_sem]);repeat((with_reducible first|refine vJ ?_|refine vK ?_);try simp only [seval, go_sem])))
      (with_reducible refine condI.split (fun hg => ?_) (fun hg => ?_) <;> (try simp only [hg]) <;> (try simp only [seval, go_sem]))
      · exfalso
        simp at hg
        omega
      ((try simp only [seval, go_sem]);repeat((with_reducible first|refine vJ ?_|refine vK ?_);try simp only [seval, go_sem]))
      ((first | refine ⟨⟨by omega, hA⟩, ?_⟩ | refine ⟨hA, ?_⟩); (try simp only [seval, go_sem]))
      (refine ldF.one _ (RdS.cell 11 rfl rfl) ?_; ((try simp only [seval, go_sem]);repeat((with_reducible first|refine vJ ?_|refine vK ?_);try simp only [seval, go_sem])))
      refine ⟨⟨by simp, hA2⟩, ?_⟩
      refine ldF.agg (sz := 2) [.bool false, .slice a bytes.length cb] rfl (RdS.part 50 rfl (fun i u hu => by rw [Nat.zero_add]; match i, hu with | 0, hu => exact hu | 1, hu => exact hu)) ?_
      ((try simp only [seval, go_sem]);repeat((with_reducible first|refine vJ ?_|refine vK ?_);try simp only [seval, go_sem]))
      have w1 : IntKind.i64.wrap ((bytes.length : Int) - 1) = (bytes.length : Int) - 1 := wrap_in (by omega) (by omega)
      have i1 : inB (i : Int) 0 ((bytes.length : Int) - 1) = true := inB_iff.2 ⟨by omega, by omega⟩
      have i2 : inB vv 1 255 = true := inB_iff.2 hvv
      try simp only [w1]
      (try with_reducible refine callM.toT ?_); refine callP (in_s (i : Int) 0 ((bytes.length : Int) - 1) z) rfl rfl ?_; rintro _ _ - ⟨rfl, rfl⟩; ((try simp only [seval, go_sem]);repeat((with_reducible first|refine vJ ?_|refine vK ?_);try simp only [seval, go_sem]))
      simp only [i1]
      ((try simp only [seval, go_sem]);repeat((with_reducible first|refine vJ ?_|refine vK ?_);try simp only [seval, go_sem]))
      (try with_reducible refine callM.toT ?_); refine callP (in_s vv 1 255 z) rfl rfl ?_; rintro _ _ - ⟨rfl, rfl⟩; ((try simp only [seval, go_sem]);repeat((with_reducible first|refine vJ ?_|refine vK ?_);try simp only [seval, go_sem]))
      simp only [i2]
      ((try simp only [seval, go_sem]);repeat((with_reducible first|refine vJ ?_|refine vK ?_);try simp only [seval, go_sem]))
      refine ⟨⟨by omega, by omega, hA3⟩, ?_⟩
      (try simp only [seval, go_sem])
      simp only [Nat.mul_one]
      refine ldF.one _ (RdS.cell 46 rfl (bc_get hi)) ?_
      ((try simp only [seval, go_sem]);repeat((with_reducible first|refine vJ ?_|refine vK ?_);try simp only [seval, go_sem]))
      refine ⟨⟨by omega, by omega, hA3⟩, ?_⟩
      (try simp only [seval, go_sem])
      simp only [Nat.mul_one]
      rw [bend_bits hb2 hi hvv]
      refine stoV_row 46 rfl rfl rfl rfl rfl rfl rfl (by simp only [bc, List.length_map, List.length_singleton]; omega) ?_
      rw [bc_set hi]
      ((try simp only [seval, go_sem]);repeat((with_reducible first|refine vJ ?_|refine vK ?_);try simp only [seval, go_sem]))
      ((first | refine ⟨⟨by omega, hA⟩, ?_⟩ | refine ⟨hA, ?_⟩); (try simp only [seval, go_sem]))
      (refine ldF.one _ (RdS.cell 11 rfl rfl) ?_; ((try simp only [seval, go_sem]);repeat((with_reducible first|refine vJ ?_|refine vK ?_);try simp only [seval, go_sem])))
      refine ⟨⟨by simp, hA2⟩, ?_⟩
      refine stoV_row 50 rfl rfl rfl rfl rfl rfl rfl (by simp [netV]) ?_
      simp only [seval, go_sem, putV]
      ((try simp only [seval, go_sem]);repeat((with_reducible first|refine vJ ?_|refine vK ?_);try simp only [seval, go_sem]))
      (refine FinV.pk 97 [46, 51] ?_); dsimp only
      refine FinV.tf (Tf.own 97 rfl rfl (fun w F h => starL_tie h)) ?_
      dsimp only
      (refine FinV.pk 999 [10, 11, 20, 21, 22, 23, 30, 31, 32, 33, 40, 41, 50, 97] ?_); dsimp only
      (((try simp only [seval, go_sem]);repeat((with_reducible first|refine vJ ?_|refine vK ?_);try simp only [seval, go_sem])); refine FinV.own 999 rfl ?_; simp only [finE, finS, gt, look, SV.toV, SC.toV, allV, tupV, zq1, zq2, zq3, zq4, Nat.reduceAdd, Nat.reduceEqDiff, reduceCtorEq, if_true, if_false, reduceIte, Nat.succ_ne_self, true_and, zq5, zq7, zq8])
      have hbm : bendM ⟨false, bytes⟩ (i : Int) vv = ⟨true, bytes.set i (((bytes.getD i 0).toNat ^^^ vv.toNat : Nat) : Int)⟩ := by unfold bendM; rw [if_pos ⟨by omega, by exact hat.2, hvv.1, hvv.2, rfl⟩]; rfl
      rw [bendL_cons, hbm]
      have hbe' : bysA (bytes.set i (((bytes.getD i 0).toNat ^^^ vv.toNat : Nat) : Int)) a cb = rowA tyB 1 (.slice a bytes.length cb) bytes.length (bc (bytes.set i (((bytes.getD i 0).toNat ^^^ vv.toNat : Nat) : Int))) := by
        unfold bysA
        rw [if_neg (List.ne_nil_of_length_pos (by rw [List.length_set]; omega)), List.length_set]
      refine ⟨e0, e1, _, _, ⟨E, EC, N, NC, m0, m1, ⟨A0, C0, ms0⟩, ⟨A1, C1, (a, cb) :: ms⟩⟩, rfl, rfl, rfl, rfl, ?_, ?_⟩
      · simp only [wldA, netB, netV, hbe', List.length_set]
        rfl
      · have hbx := bend_bys hb2 hi hvv
        exact ⟨hR.e0, hR.e1, hR.n0, ⟨⟨⟨by rw [List.length_set]; exact hb1, hbx⟩, hok2⟩, hcap⟩⟩
  · have hsame : ∀ x l, n1 = x :: l → bendM x at_ vv = x := fun x l e => by
      unfold bendM
      rw [if_neg (fun h => hP ⟨x, l, e, h.2.2.2.2, ⟨h.1, h.2.1⟩, h.2.2.1, h.2.2.2.1⟩)]
    (refine spec_enterL [10, 11, 20, 21, 22, 23, 30, 31, 32, 33, 40, 41, 50, 51] Tryz.func90 ic90_ok fr90_ok Tryz.ntmps90 rfl ?_; simp only [seval, go_sem, ic90, fr90, zipL])
    refine vsI.atR 11 rfl fun hA => ?_
    have hA := hA (by omega)
    refine vsI.atR 50 rfl fun hA2 => ?_
    ((try simp only [seval, go_sem]);repeat((with_reducible first|refine vJ ?_|refine vK ?_);try simp only [seval, go_sem]))
    ((first | refine ⟨⟨by omega, hA⟩, ?_⟩ | refine ⟨hA, ?_⟩); (try simp only [seval, go_sem]))
    (refine ldF.one _ (RdS.cell 11 rfl rfl) ?_; ((try simp only [seval, go_sem]);repeat((with_reducible first|refine vJ ?_|refine vK ?_);try simp only [seval, go_sem])))
    (with_reducible refine condI.split (fun hg => ?_) (fun hg => ?_) <;> (try simp only [hg]) <;> (try simp only [seval, go_sem]))
    · have h0 : n1 = [] := List.eq_nil_of_length_eq_zero (by simp at hg; simp [hg])
      ((try simp only [seval, go_sem]);repeat((with_reducible first|refine vJ ?_|refine vK ?_);try simp only [seval, go_sem]))
      (refine FinV.pk 999 [10, 11, 20, 21, 22, 23, 30, 31, 32, 33, 40, 41, 50, 51] ?_); dsimp only
      (((try simp only [seval, go_sem]);repeat((with_reducible first|refine vJ ?_|refine vK ?_);try simp only [seval, go_sem])); refine FinV.own 999 rfl ?_; simp only [finE, finS, gt, look, SV.toV, SC.toV, allV, tupV, zq1, zq2, zq3, zq4, Nat.reduceAdd, Nat.reduceEqDiff, reduceCtorEq, if_true, if_false, reduceIte, Nat.succ_ne_self, true_and, zq5, zq7, zq8])
      subst h0
      exact WldH.mk hR
    · cases n1 with
      | nil => simp at hg
      | cons msg rest =>
        obtain ⟨bent, bytes⟩ := msg
        have h15 : bytes.length ≤ 15 := hN.2 ⟨bent, bytes⟩ (by simp)
        have hA2 := hA2 (by simp)
        cases ms1 with
        | nil => exact hok.elim
        | cons x ms =>
          obtain ⟨a, cb⟩ := x
          have hsm := hsame _ _ rfl
          have w1 : IntKind.i64.wrap ((bytes.length : Int) - 1) = (bytes.length : Int) - 1 := wrap_in (by omega) (by omega)
          ((try simp only [seval, go_sem]);repeat((with_reducible first|refine vJ ?_|refine vK ?_);try simp only [seval, go_sem]))
          ((first | refine ⟨⟨by omega, hA⟩, ?_⟩ | refine ⟨hA, ?_⟩); (try simp only [seval, go_sem]))
          (refine ldF.one _ (RdS.cell 11 rfl rfl) ?_; ((try simp only [seval, go_sem]);repeat((with_reducible first|refine vJ ?_|refine vK ?_);try simp only [seval, go_sem])))
          refine ⟨⟨by simp, hA2⟩, ?_⟩
          refine ldF.agg (sz := 2) [.bool bent, .slice a bytes.length cb] rfl (RdS.part 50 rfl (fun i u hu => by rw [Nat.zero_add]; match i, hu with | 0, hu => exact hu | 1, hu => exact hu)) ?_
          cases bent
          · ((try simp only [seval, go_sem]);repeat((with_reducible first|refine vJ ?_|refine vK ?_);try simp only [seval, go_sem]))
            try simp only [w1]
            (try with_reducible refine callM.toT ?_); refine callP (in_s at_ 0 ((bytes.length : Int) - 1) z) rfl rfl ?_; rintro _ _ - ⟨rfl, rfl⟩; ((try simp only [seval, go_sem]);repeat((with_reducible first|refine vJ ?_|refine vK ?_);try simp only [seval, go_sem]))
            cases h1 : inB at_ 0 ((bytes.length : Int) - 1)
            · ((try simp only [seval, go_sem]);repeat((with_reducible first|refine vJ ?_|refine vK ?_);try simp only [seval, go_sem]))
              (refine FinV.pk 999 [10, 11, 20, 21, 22, 23, 30, 31, 32, 33, 40, 41, 50, 51] ?_); dsimp only
              (((try simp only [seval, go_sem]);repeat((with_reducible first|refine vJ ?_|refine vK ?_);try simp only [seval, go_sem])); refine FinV.own 999 rfl ?_; simp only [finE, finS, gt, look, SV.toV, SC.toV, allV, tupV, zq1, zq2, zq3, zq4, Nat.reduceAdd, Nat.reduceEqDiff, reduceCtorEq, if_true, if_false, reduceIte, Nat.succ_ne_self, true_and, zq5, zq7, zq8])
              rw [bendL_cons, hsm]
              exact WldH.mk hR
            · ((try simp only [seval, go_sem]);repeat((with_reducible first|refine vJ ?_|refine vK ?_);try simp only [seval, go_sem]))
              (try with_reducible refine callM.toT ?_); refine callP (in_s vv 1 255 z) rfl rfl ?_; rintro _ _ - ⟨rfl, rfl⟩; ((try simp only [seval, go_sem]);repeat((with_reducible first|refine vJ ?_|refine vK ?_);try simp only [seval, go_sem]))
              cases h2 : inB vv 1 255
              · ((try simp only [seval, go_sem]);repeat((with_reducible first|refine vJ ?_|refine vK ?_);try simp only [seval, go_sem]))
                (refine FinV.pk 999 [10, 11, 20, 21, 22, 23, 30, 31, 32, 33, 40, 41, 50, 51] ?_); dsimp only
                (((try simp only [seval, go_sem]);repeat((with_reducible first|refine vJ ?_|refine vK ?_);try simp only [seval, go_sem])); refine FinV.own 999 rfl ?_; simp only [finE, finS, gt, look, SV.toV, SC.toV, allV, tupV, zq1, zq2, zq3, zq4, Nat.reduceAdd, Nat.reduceEqDiff, reduceCtorEq, if_true, if_false, reduceIte, Nat.succ_ne_self, true_and, zq5, zq7, zq8])
                rw [bendL_cons, hsm]
                exact WldH.mk hR
              · exfalso
                rw [inB_iff] at h1 h2
                exact hP ⟨⟨false, bytes⟩, rest, rfl, rfl, ⟨h1.1, by have := h1.2; show at_ < (bytes.length : Int); omega⟩, h2.1, h2.2⟩
          · ((try simp only [seval, go_sem]);repeat((with_reducible first|refine vJ ?_|refine vK ?_);try simp only [seval, go_sem]))
            (refine FinV.pk 999 [10, 11, 20, 21, 22, 23, 30, 31, 32, 33, 40, 41, 50, 51] ?_); dsimp only
            (((try simp only [seval, go_sem]);repeat((with_reducible first|refine vJ ?_|refine vK ?_);try simp only [seval, go_sem])); refine FinV.own 999 rfl ?_; simp only [finE, finS, gt, look, SV.toV, SC.toV, allV, tupV, zq1, zq2, zq3, zq4, Nat.reduceAdd, Nat.reduceEqDiff, reduceCtorEq, if_true, if_false, reduceIte, Nat.succ_ne_self, true_and, zq5, zq7, zq8])
            rw [bendL_cons, hsm]
            exact WldH.mk hR
theorem FinV.toRow {s : St} {fr : List FR} {R : Value → Zc → Asrt → Prop} (k j : Nat) {e sz m : Nat} {cs : List SC} {vs : List Value} (hk : look j s.L = some (.cells e cs)) (hv : allV cs = some vs) (hl : vs.length = m * sz) (hm : m ≤ 1000000000) (h : ∀ b, FinV fr (rowSt s k j b e sz m vs) R) : FinV fr s R := fun C ρ a w hs => by
  obtain ⟨b, _, hs'⟩ := hs.toRow k j hk hv hl hm
  exact h b C ρ a w hs'
theorem l9move0 (c : Cfg) (link : Int) (e0 e1 : End) (n0 n1 : List Msg) (m : WM) (ev : Evt) (v : Value) (z : Zc) (hv : By z ev.data v) (hR : WldR z e0 e1 n0 n1 m) (hl : 0 ≤ link ∧ link ≤ 1) (hw : ev.who = 0) (hk : ev.kind = 10) :
    Spec Tryz.prog 61 [wldV c link m, vEvt ev v] z (wldA e0 e1 n0 n1 m) (WldH c ⟨c, [e0, e1], [[], []], 1 - link⟩) := by
  obtain ⟨kind, who, at_, vv, data⟩ := ev
  dsimp only at *
  subst hw
  subst hk
  obtain ⟨Av, kv, rfl, hkv, hBv, hrv⟩ := hv.form
  (refine spec_enterL [10, 11, 20, 21, 22, 23, 30, 31, 32, 33, 40, 41, 50, 51] Tryz.func61 ic61_ok fr61_ok Tryz.ntmps61 rfl ?_; simp only [seval, go_sem, ic61, fr61, zipL])
  ((try simp only [seval, go_sem]);repeat((with_reducible first|refine vJ ?_|refine vK ?_);try simp only [seval, go_sem]))
  (try with_reducible refine callM.toT ?_); refine callP (in_s 0 0 1 z) rfl rfl ?_; rintro _ _ - ⟨rfl, rfl⟩; ((try simp only [seval, go_sem]);repeat((with_reducible first|refine vJ ?_|refine vK ?_);try simp only [seval, go_sem]))
  simp only [seval, go_sem, show inB 0 0 1 = true from rfl, show inB 1 0 1 = true from rfl]
  ((try simp only [seval, go_sem]);repeat((with_reducible first|refine vJ ?_|refine vK ?_);try simp only [seval, go_sem]))
  have w1 : IntKind.i64.wrap (1 - link) = 1 - link := wrap_in (by omega) (by omega)
  simp only [w1]
  refine FinV.toRow 62 3 (m := 0) (sz := 2) rfl rfl rfl (by omega) (fun b3 => ?_)
  simp only [seval, go_sem, rowSt, subV, subC, subE, subL]
  refine FinV.toRow 63 4 (m := 0) (sz := 2) rfl rfl rfl (by omega) (fun b4 => ?_)
  simp only [seval, go_sem, rowSt, subV, subC, subE, subL]
  refine FinV.toRow 61 5 (m := 2) (sz := 1) rfl rfl rfl (by omega) (fun b5 => ?_)
  simp only [seval, go_sem, rowSt, subV, subC, subE, subL]
  refine FinV.tf (Tf.addE 64 rfl) ?_
  refine FinV.tf (Tf.addE 65 rfl) ?_
  dsimp only
  (refine FinV.pk 999 [10, 61, 20, 21, 22, 23, 30, 31, 32, 33, 62, 64, 63, 65] ?_); dsimp only
  (((try simp only [seval, go_sem]);repeat((with_reducible first|refine vJ ?_|refine vK ?_);try simp only [seval, go_sem])); refine FinV.own 999 rfl ?_; simp only [finE, finS, gt, look, SV.toV, SC.toV, allV, tupV, zq1, zq2, zq3, zq4, Nat.reduceAdd, Nat.reduceEqDiff, reduceCtorEq, if_true, if_false, reduceIte, Nat.succ_ne_self, true_and, zq5, zq7, zq8])
  exact ⟨e0, e1, [], [], ⟨m.E, m.EC, some ⟨b5, 0, none⟩, 2, m.m0, m.m1, ⟨some ⟨b3, 0, none⟩, 0, []⟩, ⟨some ⟨b4, 0, none⟩, 0, []⟩⟩, rfl, rfl, rfl, rfl, rfl, ⟨hR.e0, hR.e1, ⟨trivial, Nat.le_refl _⟩, ⟨trivial, Nat.le_refl _⟩⟩⟩
theorem l9move1 (c : Cfg) (link : Int) (e0 e1 : End) (n0 n1 : List Msg) (m : WM) (ev : Evt) (v : Value) (z : Zc) (hv : By z ev.data v) (hR : WldR z e0 e1 n0 n1 m) (hl : 0 ≤ link ∧ link ≤ 1) (hw : ev.who = 1) (hk : ev.kind = 10) :
    Spec Tryz.prog 61 [wldV c link m, vEvt ev v] z (wldA e0 e1 n0 n1 m) (WldH c ⟨c, [e0, e1], [[], []], 1 - link⟩) := by
  obtain ⟨kind, who, at_, vv, data⟩ := ev
  dsimp only at *
  subst hw
  subst hk
  obtain ⟨Av, kv, rfl, hkv, hBv, hrv⟩ := hv.form
  (refine spec_enterL [10, 11, 20, 21, 22, 23, 30, 31, 32, 33, 40, 41, 50, 51] Tryz.func61 ic61_ok fr61_ok Tryz.ntmps61 rfl ?_; simp only [seval, go_sem, ic61, fr61, zipL])
  ((try simp only [seval, go_sem]);repeat((with_reducible first|refine vJ ?_|refine vK ?_);try simp only [seval, go_sem]))
  (try with_reducible refine callM.toT ?_); refine callP (in_s 1 0 1 z) rfl rfl ?_; rintro _ _ - ⟨rfl, rfl⟩; ((try simp only [seval, go_sem]);repeat((with_reducible first|refine vJ ?_|refine vK ?_);try simp only [seval, go_sem]))
  simp only [seval, go_sem, show inB 0 0 1 = true from rfl, show inB 1 0 1 = true from rfl]
  ((try simp only [seval, go_sem]);repeat((with_reducible first|refine vJ ?_|refine vK ?_);try simp only [seval, go_sem]))
  have w1 : IntKind.i64.wrap (1 - link) = 1 - link := wrap_in (by omega) (by omega)
  simp only [w1]
  refine FinV.toRow 62 3 (m := 0) (sz := 2) rfl rfl rfl (by omega) (fun b3 => ?_)
  simp only [seval, go_sem, rowSt, subV, subC, subE, subL]
  refine FinV.toRow 63 4 (m := 0) (sz := 2) rfl rfl rfl (by omega) (fun b4 => ?_)
  simp only [seval, go_sem, rowSt, subV, subC, subE, subL]
  refine FinV.toRow 61 5 (m := 2) (sz := 1) rfl rfl rfl (by omega) (fun b5 => ?_)
  simp only [seval, go_sem, rowSt, subV, subC, subE, subL]
  refine FinV.tf (Tf.addE 64 rfl) ?_
  refine FinV.tf (Tf.addE 65 rfl) ?_
  dsimp only
  (refine FinV.pk 999 [10, 61, 20, 21, 22, 23, 30, 31, 32, 33, 62, 64, 63, 65] ?_); dsimp only
  (((try simp only [seval, go_sem]);repeat((with_reducible first|refine vJ ?_|refine vK ?_);try simp only [seval, go_sem])); refine FinV.own 999 rfl ?_; simp only [finE, finS, gt, look, SV.toV, SC.toV, allV, tupV, zq1, zq2, zq3, zq4, Nat.reduceAdd, Nat.reduceEqDiff, reduceCtorEq, if_true, if_false, reduceIte, Nat.succ_ne_self, true_and, zq5, zq7, zq8])
  exact ⟨e0, e1, [], [], ⟨m.E, m.EC, some ⟨b5, 0, none⟩, 2, m.m0, m.m1, ⟨some ⟨b3, 0, none⟩, 0, []⟩, ⟨some ⟨b4, 0, none⟩, 0, []⟩⟩, rfl, rfl, rfl, rfl, rfl, ⟨hR.e0, hR.e1, ⟨trivial, Nat.le_refl _⟩, ⟨trivial, Nat.le_refl _⟩⟩⟩
theorem l9inj0 (c : Cfg) (link : Int) (e0 e1 : End) (n0 n1 : List Msg) (m : WM) (ev : Evt) (v : Value) (z : Zc) (hv : By z ev.data v) (hl : ev.data.length ≤ 1000000) (hR : WldR z e0 e1 n0 n1 m) (h30 : n0.length ≤ 30) (hw : ev.who = 0) (hk : ev.kind = 11) :
    Spec Tryz.prog 61 [wldV c link m, vEvt ev v] z (wldA e0 e1 n0 n1 m) (WldH c (if n0.length < 30 ∧ ev.data.length ≤ 15 then ⟨c, [e0, e1], [n0, n1].set 0 (n0 ++ [⟨false, ev.data⟩]), link⟩ else ⟨c, [e0, e1], [n0, n1], link⟩)) := by
  obtain ⟨kind, who, at_, vv, data⟩ := ev
  dsimp only at *
  subst hw
  subst hk
  obtain ⟨Av, kv, rfl, hkv, hBv, hrv⟩ := hv.form
  have hlen := hR.n0.ok.len
  have hvl := netV_len hR.n0.ok
  (refine spec_enterL [10, 11, 20, 21, 22, 23, 30, 31, 32, 33, 40, 41, 50, 51] Tryz.func61 ic61_ok fr61_ok Tryz.ntmps61 rfl ?_; simp only [seval, go_sem, ic61, fr61, zipL])
  refine vsI.atR 11 rfl fun hN => ?_
  have hN := hN (by omega)
  ((try simp only [seval, go_sem]);repeat((with_reducible first|refine vJ ?_|refine vK ?_);try simp only [seval, go_sem]))
  (try with_reducible refine callM.toT ?_); refine callP (in_s 0 0 1 z) rfl rfl ?_; rintro _ _ - ⟨rfl, rfl⟩; ((try simp only [seval, go_sem]);repeat((with_reducible first|refine vJ ?_|refine vK ?_);try simp only [seval, go_sem]))
  simp only [seval, go_sem, show inB 0 0 1 = true from rfl, show inB 1 0 1 = true from rfl]
  ((try simp only [seval, go_sem]);repeat((with_reducible first|refine vJ ?_|refine vK ?_);try simp only [seval, go_sem]))
  ((first | refine ⟨⟨by omega, hN⟩, ?_⟩ | refine ⟨hN, ?_⟩); (try simp only [seval, go_sem]))
  (refine ldF.one _ (RdS.cell 11 rfl rfl) ?_; ((try simp only [seval, go_sem]);repeat((with_reducible first|refine vJ ?_|refine vK ?_);try simp only [seval, go_sem])))
  by_cases h1 : n0.length < 30
  · have g1 : decide ((n0.length : Int) < 30) = true := decide_eq_true (by omega)
    simp only [g1]
    ((try simp only [seval, go_sem]);repeat((with_reducible first|refine vJ ?_|refine vK ?_);try simp only [seval, go_sem]))
    by_cases h2 : data.length ≤ 15
    · have g2 : decide ((data.length : Int) ≤ 15) = true := decide_eq_true (by omega)
      rw [if_pos ⟨h1, h2⟩]
      simp only [g2]
      ((try simp only [seval, go_sem]);repeat((with_reducible first|refine vJ ?_|refine vK ?_);try simp only [seval, go_sem]))
      (with_reducible refine joinV.id ?_; simp only [seval, go_sem])
      ((first | refine ⟨⟨by omega, hN⟩, ?_⟩ | refine ⟨hN, ?_⟩); (try simp only [seval, go_sem]))
      by_cases h0 : data.length = 0
      · have hbn : data = [] := List.eq_nil_of_length_eq_zero h0
        subst hbn
        simp only [List.length_nil]
        repeat' (first | (refine And.intro ?_ ?_ <;> (try simp only [seval, go_sem])) | (refine ldF.one _ (RdS.cell 11 rfl rfl) ?_; ((try simp only [seval, go_sem]);repeat((with_reducible first|refine vJ ?_|refine vK ?_);try simp only [seval, go_sem]))))
        all_goals (try with_reducible refine appM.toT ?_); (refine appM_zero atyB (by first | exact .inl ⟨_, _, _, Nat.le_refl _, rfl⟩ | exact .inr ⟨_, _, rfl⟩) rfl ?_); ((try simp only [seval, go_sem]);repeat((with_reducible first|refine vJ ?_|refine vK ?_);try simp only [seval, go_sem]))
        repeat' (first | (refine And.intro ?_ ?_ <;> (try simp only [seval, go_sem])) | (refine ldF.one _ (RdS.cell 11 rfl rfl) ?_; ((try simp only [seval, go_sem]);repeat((with_reducible first|refine vJ ?_|refine vK ?_);try simp only [seval, go_sem]))))
        all_goals refine appM.frz 3 rfl rfl (fun b9 z9 hz9 hr9 => ?_)
        all_goals simp only [seval, go_sem, Go.Proofs.YtpjaidjnamngaaaGreat.frz, subV, subC, subE, subL]
        all_goals (try with_reducible refine appM.toT ?_); (refine appM_newF 40 atyMs rfl rfl rfl rfl rfl rfl rfl (by simp [Value.oneCell']) (by omega) (fun A6 c6 hc6 hat6 => ?_)); ((try simp only [seval, go_sem]);repeat((with_reducible first|refine vJ ?_|refine vK ?_);try simp only [seval, go_sem]))
        all_goals ((first | refine ⟨⟨by omega, hN⟩, ?_⟩ | refine ⟨hN, ?_⟩); (try simp only [seval, go_sem]))
        all_goals (refine stoV_row 11 rfl rfl rfl rfl rfl rfl rfl (by simp) ?_; simp only [seval, go_sem, putV]; ((try simp only [seval, go_sem]);repeat((with_reducible first|refine vJ ?_|refine vK ?_);try simp only [seval, go_sem])))
        all_goals refine FinV.tf (Tf.addE 95 rfl) ?_
        all_goals dsimp only
        all_goals (refine FinV.pk 96 [41, 95] ?_); dsimp only
        all_goals refine FinV.tf (Tf.own 96 rfl rfl (fun w F h => starL_push h)) ?_
        all_goals dsimp only
        all_goals (refine FinV.pk 999 [10, 11, 20, 21, 22, 23, 30, 31, 32, 33, 40, 96, 50, 51] ?_); dsimp only
        all_goals (((try simp only [seval, go_sem]);repeat((with_reducible first|refine vJ ?_|refine vK ?_);try simp only [seval, go_sem])); refine FinV.own 999 rfl ?_; simp only [finE, finS, gt, look, SV.toV, SC.toV, allV, tupV, zq1, zq2, zq3, zq4, Nat.reduceAdd, Nat.reduceEqDiff, reduceCtorEq, if_true, if_false, reduceIte, Nat.succ_ne_self, true_and, zq5, zq7, zq8])
        all_goals dsimp only at hz9
        all_goals have hbe : bysA [] (some ⟨b9, 0, none⟩) 0 = starL [] := by unfold bysA; rw [if_pos rfl]; rfl
        all_goals have hR9 := WldR.up hz9 hR
        all_goals refine ⟨e0, e1, _, _, { m with n0 := ⟨A6, c6, m.n0.ms ++ [(some ⟨b9, 0, none⟩, 0)]⟩ }, rfl, rfl, rfl, rfl, ?_, ⟨hR9.e0, hR9.e1, hR.n0.snoc hc6 (Nat.zero_le _) hBv, hR.n1⟩⟩
        all_goals simp only [wldA, netV_snoc _ _ _ _ _ hlen, netB_snoc _ _ _ _ _ hlen, List.length_append, List.length_singleton, List.length_nil, hbe]
      · have hbe : ∀ A5 c5, bysA data A5 c5 = rowA tyB 1 (.slice A5 data.length c5) data.length (bc data) := fun A5 c5 => by unfold bysA; rw [if_neg (List.ne_nil_of_length_pos (by omega))]
        repeat' (first | (refine And.intro ?_ ?_ <;> (try simp only [seval, go_sem])) | (refine ldF.one _ (RdS.cell 11 rfl rfl) ?_; ((try simp only [seval, go_sem]);repeat((with_reducible first|refine vJ ?_|refine vK ?_);try simp only [seval, go_sem]))))
        all_goals (try with_reducible refine appM.toT ?_); (refine appM_emptyO 95 atyB rfl (by first | exact .inl ⟨_, rfl⟩ | exact .inr ⟨_, _, rfl⟩) rfl (hrv) (by first | omega | (simp <;> omega)) (bc_one _) (by omega) (by omega) (fun A5 c5 hc5 => ?_)); ((try simp only [seval, go_sem]);repeat((with_reducible first|refine vJ ?_|refine vK ?_);try simp only [seval, go_sem]))
        repeat' (first | (refine And.intro ?_ ?_ <;> (try simp only [seval, go_sem])) | (refine ldF.one _ (RdS.cell 11 rfl rfl) ?_; ((try simp only [seval, go_sem]);repeat((with_reducible first|refine vJ ?_|refine vK ?_);try simp only [seval, go_sem]))))
        all_goals (try with_reducible refine appM.toT ?_); (refine appM_newF 40 atyMs rfl rfl rfl rfl rfl rfl rfl (by simp [Value.oneCell']) (by omega) (fun A6 c6 hc6 hat6 => ?_)); ((try simp only [seval, go_sem]);repeat((with_reducible first|refine vJ ?_|refine vK ?_);try simp only [seval, go_sem]))
        all_goals ((first | refine ⟨⟨by omega, hN⟩, ?_⟩ | refine ⟨hN, ?_⟩); (try simp only [seval, go_sem]))
        all_goals (refine stoV_row 11 rfl rfl rfl rfl rfl rfl rfl (by simp) ?_; simp only [seval, go_sem, putV]; ((try simp only [seval, go_sem]);repeat((with_reducible first|refine vJ ?_|refine vK ?_);try simp only [seval, go_sem])))
        all_goals (refine FinV.pk 96 [41, 95] ?_); dsimp only
        all_goals refine FinV.tf (Tf.own 96 rfl rfl (fun w F h => starL_push h)) ?_
        all_goals dsimp only
        all_goals (refine FinV.pk 999 [10, 11, 20, 21, 22, 23, 30, 31, 32, 33, 40, 96, 50, 51] ?_); dsimp only
        all_goals (((try simp only [seval, go_sem]);repeat((with_reducible first|refine vJ ?_|refine vK ?_);try simp only [seval, go_sem])); refine FinV.own 999 rfl ?_; simp only [finE, finS, gt, look, SV.toV, SC.toV, allV, tupV, zq1, zq2, zq3, zq4, Nat.reduceAdd, Nat.reduceEqDiff, reduceCtorEq, if_true, if_false, reduceIte, Nat.succ_ne_self, true_and, zq5, zq7, zq8])
        all_goals refine ⟨e0, e1, _, _, { m with n0 := ⟨A6, c6, m.n0.ms ++ [(A5, c5)]⟩ }, rfl, rfl, rfl, rfl, ?_, ⟨hR.e0, hR.e1, hR.n0.snoc hc6 hc5 hBv, hR.n1⟩⟩
        all_goals simp only [wldA, netV_snoc _ _ _ _ _ hlen, netB_snoc _ _ _ _ _ hlen, List.length_append, List.length_singleton, hbe]
    · have g2 : decide ((data.length : Int) ≤ 15) = false := decide_eq_false (by omega)
      rw [if_neg (fun h => h2 h.2)]
      simp only [g2]
      ((try simp only [seval, go_sem]);repeat((with_reducible first|refine vJ ?_|refine vK ?_);try simp only [seval, go_sem]))
      (refine FinV.pk 999 [10, 11, 20, 21, 22, 23, 30, 31, 32, 33, 40, 41, 50, 51] ?_); dsimp only
      (((try simp only [seval, go_sem]);repeat((with_reducible first|refine vJ ?_|refine vK ?_);try simp only [seval, go_sem])); refine FinV.own 999 rfl ?_; simp only [finE, finS, gt, look, SV.toV, SC.toV, allV, tupV, zq1, zq2, zq3, zq4, Nat.reduceAdd, Nat.reduceEqDiff, reduceCtorEq, if_true, if_false, reduceIte, Nat.succ_ne_self, true_and, zq5, zq7, zq8])
      exact WldH.mk hR
  · have g1 : decide ((n0.length : Int) < 30) = false := decide_eq_false (by omega)
    rw [if_neg (fun h => h1 h.1)]
    simp only [g1]
    ((try simp only [seval, go_sem]);repeat((with_reducible first|refine vJ ?_|refine vK ?_);try simp only [seval, go_sem]))
    (refine FinV.pk 999 [10, 11, 20, 21, 22, 23, 30, 31, 32, 33, 40, 41, 50, 51] ?_); dsimp only
    (((try simp only [seval, go_sem]);repeat((with_reducible first|refine vJ ?_|refine vK ?_);try simp only [seval, go_sem])); refine FinV.own 999 rfl ?_; simp only [finE, finS, gt, look, SV.toV, SC.toV, allV, tupV, zq1, zq2, zq3, zq4, Nat.reduceAdd, Nat.reduceEqDiff, reduceCtorEq, if_true, if_false, reduceIte, Nat.succ_ne_self, true_and, zq5, zq7, zq8])
    exact WldH.mk hR
theorem l9inj1 (c : Cfg) (link : Int) (e0 e1 : End) (n0 n1 : List Msg) (m : WM) (ev : Evt) (v : Value) (z : Zc) (hv : By z ev.data v) (hl : ev.data.length ≤ 1000000) (hR : WldR z e0 e1 n0 n1 m) (h30 : n1.length ≤ 30) (hw : ev.who = 1) (hk : ev.kind = 11) :
    Spec Tryz.prog 61 [wldV c link m, vEvt ev v] z (wldA e0 e1 n0 n1 m) (WldH c (if n1.length < 30 ∧ ev.data.length ≤ 15 then ⟨c, [e0, e1], [n0, n1].set 1 (n1 ++ [⟨false, ev.data⟩]), link⟩ else ⟨c, [e0, e1], [n0, n1], link⟩)) := by
  obtain ⟨kind, who, at_, vv, data⟩ := ev
  dsimp only at *
  subst hw
  subst hk
  obtain ⟨Av, kv, rfl, hkv, hBv, hrv⟩ := hv.form
  have hlen := hR.n1.ok.len
  have hvl := netV_len hR.n1.ok
  (refine spec_enterL [10, 11, 20, 21, 22, 23, 30, 31, 32, 33, 40, 41, 50, 51] Tryz.func61 ic61_ok fr61_ok Tryz.ntmps61 rfl ?_; simp only [seval, go_sem, ic61, fr61, zipL])
  refine vsI.atR 11 rfl fun hN => ?_
  have hN := hN (by omega)
  ((try simp only [seval, go_sem]);repeat((with_reducible first|refine vJ ?_|refine vK ?_);try simp only [seval, go_sem]))
  (try with_reducible refine callM.toT ?_); refine callP (in_s 1 0 1 z) rfl rfl ?_; rintro _ _ - ⟨rfl, rfl⟩; ((try simp only [seval, go_sem]);repeat((with_reducible first|refine vJ ?_|refine vK ?_);try simp only [seval, go_sem]))
  simp only [seval, go_sem, show inB 0 0 1 = true from rfl, show inB 1 0 1 = true from rfl]
  ((try simp only [seval, go_sem]);repeat((with_reducible first|refine vJ ?_|refine vK ?_);try simp only [seval, go_sem]))
  ((first | refine ⟨⟨by omega, hN⟩, ?_⟩ | refine ⟨hN, ?_⟩); (try simp only [seval, go_sem]))
  (refine ldF.one _ (RdS.cell 11 rfl rfl) ?_; ((try simp only [seval, go_sem]);repeat((with_reducible first|refine vJ ?_|refine vK ?_);try simp only [seval, go_sem])))
  by_cases h1 : n1.length < 30
  · have g1 : decide ((n1.length : Int) < 30) = true := decide_eq_true (by omega)
    simp only [g1]
    ((try simp only [seval, go_sem]);repeat((with_reducible first|refine vJ ?_|refine vK ?_);try simp only [seval, go_sem]))
    by_cases h2 : data.length ≤ 15
    · have g2 : decide ((data.length : Int) ≤ 15) = true := decide_eq_true (by omega)
      rw [if_pos ⟨h1, h2⟩]
      simp only [g2]
      ((try simp only [seval, go_sem]);repeat((with_reducible first|refine vJ ?_|refine vK ?_);try simp only [seval, go_sem]))
      (with_reducible refine joinV.id ?_; simp only [seval, go_sem])
      ((first | refine ⟨⟨by omega, hN⟩, ?_⟩ | refine ⟨hN, ?_⟩); (try simp only [seval, go_sem]))
      by_cases h0 : data.length = 0
      · have hbn : data = [] := List.eq_nil_of_length_eq_zero h0
        subst hbn
        simp only [List.length_nil]
        repeat' (first | (refine And.intro ?_ ?_ <;> (try simp only [seval, go_sem])) | (refine ldF.one _ (RdS.cell 11 rfl rfl) ?_; ((try simp only [seval, go_sem]);repeat((with_reducible first|refine vJ ?_|refine vK ?_);try simp only [seval, go_sem]))))
        all_goals (try with_reducible refine appM.toT ?_); (refine appM_zero atyB (by first | exact .inl ⟨_, _, _, Nat.le_refl _, rfl⟩ | exact .inr ⟨_, _, rfl⟩) rfl ?_); ((try simp only [seval, go_sem]);repeat((with_reducible first|refine vJ ?_|refine vK ?_);try simp only [seval, go_sem]))
        repeat' (first | (refine And.intro ?_ ?_ <;> (try simp only [seval, go_sem])) | (refine ldF.one _ (RdS.cell 11 rfl rfl) ?_; ((try simp only [seval, go_sem]);repeat((with_reducible first|refine vJ ?_|refine vK ?_);try simp only [seval, go_sem]))))
        all_goals refine appM.frz 3 rfl rfl (fun b9 z9 hz9 hr9 => ?_)
        all_goals simp only [seval, go_sem, Go.Proofs.YtpjaidjnamngaaaGreat.frz, subV, subC, subE, subL]
        all_goals (try with_reducible refine appM.toT ?_); (refine appM_newF 50 atyMs rfl rfl rfl rfl rfl rfl rfl (by simp [Value.oneCell']) (by omega) (fun A6 c6 hc6 hat6 => ?_)); ((try simp only [seval, go_sem]);repeat((with_reducible first|refine vJ ?_|refine vK ?_);try simp only [seval, go_sem]))
        all_goals ((first | refine ⟨⟨by omega, hN⟩, ?_⟩ | refine ⟨hN, ?_⟩); (try simp only [seval, go_sem]))
        all_goals (refine stoV_row 11 rfl rfl rfl rfl rfl rfl rfl (by simp) ?_; simp only [seval, go_sem, putV]; ((try simp only [seval, go_sem]);repeat((with_reducible first|refine vJ ?_|refine vK ?_);try simp only [seval, go_sem])))
        all_goals refine FinV.tf (Tf.addE 95 rfl) ?_
        all_goals dsimp only
        all_goals (refine FinV.pk 96 [51, 95] ?_); dsimp only
        all_goals refine FinV.tf (Tf.own 96 rfl rfl (fun w F h => starL_push h)) ?_
        all_goals dsimp only
        all_goals (refine FinV.pk 999 [10, 11, 20, 21, 22, 23, 30, 31, 32, 33, 40, 41, 50, 96] ?_); dsimp only
        all_goals (((try simp only [seval, go_sem]);repeat((with_reducible first|refine vJ ?_|refine vK ?_);try simp only [seval, go_sem])); refine FinV.own 999 rfl ?_; simp only [finE, finS, gt, look, SV.toV, SC.toV, allV, tupV, zq1, zq2, zq3, zq4, Nat.reduceAdd, Nat.reduceEqDiff, reduceCtorEq, if_true, if_false, reduceIte, Nat.succ_ne_self, true_and, zq5, zq7, zq8])
        all_goals dsimp only at hz9
        all_goals have hbe : bysA [] (some ⟨b9, 0, none⟩) 0 = starL [] := by unfold bysA; rw [if_pos rfl]; rfl
        all_goals have hR9 := WldR.up hz9 hR
        all_goals refine ⟨e0, e1, _, _, { m with n1 := ⟨A6, c6, m.n1.ms ++ [(some ⟨b9, 0, none⟩, 0)]⟩ }, rfl, rfl, rfl, rfl, ?_, ⟨hR9.e0, hR9.e1, hR.n0, hR.n1.snoc hc6 (Nat.zero_le _) hBv⟩⟩
        all_goals simp only [wldA, netV_snoc _ _ _ _ _ hlen, netB_snoc _ _ _ _ _ hlen, List.length_append, List.length_singleton, List.length_nil, hbe]
      · have hbe : ∀ A5 c5, bysA data A5 c5 = rowA tyB 1 (.slice A5 data.length c5) data.length (bc data) := fun A5 c5 => by unfold bysA; rw [if_neg (List.ne_nil_of_length_pos (by omega))]
        repeat' (first | (refine And.intro ?_ ?_ <;> (try simp only [seval, go_sem])) | (refine ldF.one _ (RdS.cell 11 rfl rfl) ?_; ((try simp only [seval, go_sem]);repeat((with_reducible first|refine vJ ?_|refine vK ?_);try simp only [seval, go_sem]))))
        all_goals (try with_reducible refine appM.toT ?_); (refine appM_emptyO 95 atyB rfl (by first | exact .inl ⟨_, rfl⟩ | exact .inr ⟨_, _, rfl⟩) rfl (hrv) (by first | omega | (simp <;> omega)) (bc_one _) (by omega) (by omega) (fun A5 c5 hc5 => ?_)); ((try simp only [seval, go_sem]);repeat((with_reducible first|refine vJ ?_|refine vK ?_);try simp only [seval, go_sem]))
        repeat' (first | (refine And.intro ?_ ?_ <;> (try simp only [seval, go_sem])) | (refine ldF.one _ (RdS.cell 11 rfl rfl) ?_; ((try simp only [seval, go_sem]);repeat((with_reducible first|refine vJ ?_|refine vK ?_);try simp only [seval, go_sem]))))
        all_goals (try with_reducible refine appM.toT ?_); (refine appM_newF 50 atyMs rfl rfl rfl rfl rfl rfl rfl (by simp [Value.oneCell']) (by omega) (fun A6 c6 hc6 hat6 => ?_)); ((try simp only [seval, go_sem]);repeat((with_reducible first|refine vJ ?_|refine vK ?_);try simp only [seval, go_sem]))
        all_goals ((first | refine ⟨⟨by omega, hN⟩, ?_⟩ | refine ⟨hN, ?_⟩); (try simp only [seval, go_sem]))
        all_goals (refine stoV_row 11 rfl rfl rfl rfl rfl rfl rfl (by simp) ?_; simp only [seval, go_sem, putV]; ((try simp only [seval, go_sem]);repeat((with_reducible first|refine vJ ?_|refine vK ?_);try simp only [seval, go_sem])))
        all_goals (refine FinV.pk 96 [51, 95] ?_); dsimp only
        all_goals refine FinV.tf (Tf.own 96 rfl rfl (fun w F h => starL_push h)) ?_
        all_goals dsimp only
        all_goals (refine FinV.pk 999 [10, 11, 20, 21, 22, 23, 30, 31, 32, 33, 40, 41, 50, 96] ?_); dsimp only
        all_goals (((try simp only [seval, go_sem]);repeat((with_reducible first|refine vJ ?_|refine vK ?_);try simp only [seval, go_sem])); refine FinV.own 999 rfl ?_; simp only [finE, finS, gt, look, SV.toV, SC.toV, allV, tupV, zq1, zq2, zq3, zq4, Nat.reduceAdd, Nat.reduceEqDiff, reduceCtorEq, if_true, if_false, reduceIte, Nat.succ_ne_self, true_and, zq5, zq7, zq8])
        all_goals refine ⟨e0, e1, _, _, { m with n1 := ⟨A6, c6, m.n1.ms ++ [(A5, c5)]⟩ }, rfl, rfl, rfl, rfl, ?_, ⟨hR.e0, hR.e1, hR.n0, hR.n1.snoc hc6 hc5 hBv⟩⟩
        all_goals simp only [wldA, netV_snoc _ _ _ _ _ hlen, netB_snoc _ _ _ _ _ hlen, List.length_append, List.length_singleton, hbe]
    · have g2 : decide ((data.length : Int) ≤ 15) = false := decide_eq_false (by omega)
      rw [if_neg (fun h => h2 h.2)]
      simp only [g2]
      ((try simp only [seval, go_sem]);repeat((with_reducible first|refine vJ ?_|refine vK ?_);try simp only [seval, go_sem]))
      (refine FinV.pk 999 [10, 11, 20, 21, 22, 23, 30, 31, 32, 33, 40, 41, 50, 51] ?_); dsimp only
      (((try simp only [seval, go_sem]);repeat((with_reducible first|refine vJ ?_|refine vK ?_);try simp only [seval, go_sem])); refine FinV.own 999 rfl ?_; simp only [finE, finS, gt, look, SV.toV, SC.toV, allV, tupV, zq1, zq2, zq3, zq4, Nat.reduceAdd, Nat.reduceEqDiff, reduceCtorEq, if_true, if_false, reduceIte, Nat.succ_ne_self, true_and, zq5, zq7, zq8])
      exact WldH.mk hR
  · have g1 : decide ((n1.length : Int) < 30) = false := decide_eq_false (by omega)
    rw [if_neg (fun h => h1 h.1)]
    simp only [g1]
    ((try simp only [seval, go_sem]);repeat((with_reducible first|refine vJ ?_|refine vK ?_);try simp only [seval, go_sem]))
    (refine FinV.pk 999 [10, 11, 20, 21, 22, 23, 30, 31, 32, 33, 40, 41, 50, 51] ?_); dsimp only
    (((try simp only [seval, go_sem]);repeat((with_reducible first|refine vJ ?_|refine vK ?_);try simp only [seval, go_sem])); refine FinV.own 999 rfl ?_; simp only [finE, finS, gt, look, SV.toV, SC.toV, allV, tupV, zq1, zq2, zq3, zq4, Nat.reduceAdd, Nat.reduceEqDiff, reduceCtorEq, if_true, if_false, reduceIte, Nat.succ_ne_self, true_and, zq5, zq7, zq8])
    exact WldH.mk hR
end Go.Proofs.YtpjaidjnamngaaaGreat
