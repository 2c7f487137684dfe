/- Who sends by numbers, by the program: a frame is heard. · Who hears by numbers, by the program. · Numbers on a link that loses nothing: all comes, in order. Plain lists and numbers. · Codes of functions, group RxLine. -/
import Derived.Test.YtpjaidjnamngaaaGreatR21
import Derived.Test.YtpjaidjnamngaaaGreatR18
import Derived.Test.YtpjaidjnamngaaaGreatR11
import Derived.Test.YtpjaidjnamngaaaGreatR17
import Derived.Test.YtpjaidjnamngaaaGreatR3
import Derived.Test.YtpjaidjnamngaaaGreatProg
import Derived.Test.YtpjaidjnamngaaaGreatR4
namespace Go.Proofs.YtpjaidjnamngaaaGreat
open Go.RowKit
set_option linter.unusedVariables false
set_option linter.unusedSimpArgs false
set_option maxRecDepth 100000
set_option maxHeartbeats 2000000
theorem txhear_i (c : Cfg) (t : Tx) (f : Frm) (fl q x : Value) (z : Zc) (hI : TxI c t) (hf : Sl pRep z t.flight fl) (hq : Sl pRep z t.queue q) (hx : By z f.data x) (hok : frmOk f = true) (hkk : f.kind = 1 ∨ f.kind = 2) :
    PSpec Tryz.prog 21 [vCfg c, vTx t fl q, vFrm f x] z fun u z' => ∃ A a B b, u = vTx (txHear t f) (.slice A (txHear t f).flight.length a) (.slice B (txHear t f).queue.length b) ∧ Sl pRep z' (txHear t f).flight (.slice A (txHear t f).flight.length a) ∧ Sl pRep z' (txHear t f).queue (.slice B (txHear t f).queue.length b) := by
  have hto := txok_i c t fl q z hI hf hq
  have hw := hI.win
  have hcw := hI.cfg.win
  have hac := hI.acked
  have hq24 := hI.queue
  have hcn := hI.count
  have hsn := hI.sent
  have hp1 : ∀ p ∈ t.flight, p.data.length ≤ 1000000000 := fun p hp => by have := hI.flSmall p hp; omega
  have hp2 : ∀ p ∈ t.queue, p.data.length ≤ 1000000000 := fun p hp => by have := hI.quSmall p hp; omega
  have hack := frm2ack hok hkk
  have hfb := frmOk_bound hok
  have hn0 := far_lt t.acked f.ack
  obtain ⟨n, hn⟩ := Int.eq_ofNat_of_zero_le hn0.1
  obtain ⟨A, k, cs, rfl, hka, he, hr⟩ := hf
  obtain ⟨B, k2, cs2, rfl, hk2, he2, hr2⟩ := hq
  obtain ⟨Ax, kx, rfl, hkx, hBx, hrx⟩ := hx.form
  obtain ⟨next, acked, flight, sent, queue, asks, tries, held, count, dead⟩ := t
  obtain ⟨kind, seq, ack, poll, fin, say, seg, len, data⟩ := f
  dsimp only at *
  (refine pspec_enter Tryz.func21 ic21_ok fr21_ok Tryz.ntmps21 ?_; simp only [seval, go_sem, ic21, fr21])
  ((try simp only [seval, go_sem]);repeat((with_reducible first|refine vJ ?_|refine vK ?_);try simp only [seval, go_sem]))
  (try with_reducible refine callM.toT ?_); refine callP (hto) rfl rfl ?_; rintro u z1 hz1 rfl; ((try simp only [seval, go_sem]);repeat((with_reducible first|refine vJ ?_|refine vK ?_);try simp only [seval, go_sem]))
  (try with_reducible refine callM.toT ?_); refine callP (frmOk_i ⟨kind, seq, ack, poll, fin, say, seg, len, data⟩ _ z1 (Sl.mono hz1 hx) (by show data.length ≤ _; omega)) rfl rfl ?_; rintro _ _ - ⟨rfl, rfl⟩; ((try simp only [seval, go_sem]);repeat((with_reducible first|refine vJ ?_|refine vK ?_);try simp only [seval, go_sem]))
  simp only [hok]
  rcases hkk with rfl | rfl
  · simp only [seval, go_sem]
    ((try simp only [seval, go_sem]);repeat((with_reducible first|refine vJ ?_|refine vK ?_);try simp only [seval, go_sem]))
    (try with_reducible refine callM.toT ?_); refine callP (txcopy_i ⟨next, acked, flight, sent, queue, asks, tries, held, count, dead⟩ _ _ z1 (Sl.mono hz1 ⟨A, k, cs, rfl, hka, he, hr⟩) (Sl.mono hz1 ⟨B, k2, cs2, rfl, hk2, he2, hr2⟩) (by show flight.length ≤ _; omega) (by show queue.length ≤ _; omega) hp1 hp2) rfl rfl ?_; rintro u z2 hz2 ⟨A2, B2, rfl, hf2, hq2⟩; ((try simp only [seval, go_sem]);repeat((with_reducible first|refine vJ ?_|refine vK ?_);try simp only [seval, go_sem]))
    dsimp only at hf2 hq2
    cases dead with
    | true =>
      ((try simp only [seval, go_sem]);repeat((with_reducible first|refine vJ ?_|refine vK ?_);try simp only [seval, go_sem]))
      (((try simp only [seval, go_sem]);repeat((with_reducible first|refine vJ ?_|refine vK ?_);try simp only [seval, go_sem])); with_reducible refine FinV.of ?_; simp only [finE, finS, gt, look, SV.toV, SC.toV, allV, tupV, zq1, zq2, zq3, zq4, Nat.reduceAdd, Nat.reduceEqDiff, reduceCtorEq, if_true, if_false, reduceIte, Nat.succ_ne_self, true_and, zq5, zq7, zq8])
      rw [txHear_dead rfl]
      exact ⟨_, _, _, _, rfl, hf2, hq2⟩
    | false =>
      ((try simp only [seval, go_sem]);repeat((with_reducible first|refine vJ ?_|refine vK ?_);try simp only [seval, go_sem]))
      (try with_reducible refine callM.toT ?_); refine callP (far_i acked ack z2 (by omega) (by omega) (by omega)) rfl rfl ?_; rintro _ _ - ⟨rfl, rfl⟩; ((try simp only [seval, go_sem]);repeat((with_reducible first|refine vJ ?_|refine vK ?_);try simp only [seval, go_sem]))
      by_cases hfar : far acked ack > flight.length
      · have d1 : decide (far acked ack > (flight.length : Int)) = true := decide_eq_true hfar
        rw [txHear_end rfl hfar]
        simp only [d1]
        ((try simp only [seval, go_sem]);repeat((with_reducible first|refine vJ ?_|refine vK ?_);try simp only [seval, go_sem]))
        (((try simp only [seval, go_sem]);repeat((with_reducible first|refine vJ ?_|refine vK ?_);try simp only [seval, go_sem])); with_reducible refine FinV.of ?_; simp only [finE, finS, gt, look, SV.toV, SC.toV, allV, tupV, zq1, zq2, zq3, zq4, Nat.reduceAdd, Nat.reduceEqDiff, reduceCtorEq, if_true, if_false, reduceIte, Nat.succ_ne_self, true_and, zq5, zq7, zq8])
        exact ⟨_, _, _, _, rfl, hf2, hq2⟩
      · have d1 : decide (far acked ack > (flight.length : Int)) = false := decide_eq_false hfar
        rw [txHear_go rfl hfar]
        simp only [d1]
        ((try simp only [seval, go_sem]);repeat((with_reducible first|refine vJ ?_|refine vK ?_);try simp only [seval, go_sem]))
        have hnl : n ≤ flight.length := by omega
        simp only [hn, Int.toNat_natCast] at *
        refine ⟨by omega, ?_⟩; ((try simp only [seval, go_sem]);repeat((with_reducible first|refine vJ ?_|refine vK ?_);try simp only [seval, go_sem]))
        obtain ⟨A3, k3, cs3, e3, hk3, he3, hr3⟩ := Sl.of_drop hf2 n
        injection e3 with e3 e4 e5
        subst e3
        have hd1 : (flight.drop n).length = flight.length - n := by simp
        (try with_reducible refine callM.toT ?_); refine callP (cloneP _ _ _ cs3 z2 hr3 (by rw [he3.length, hd1]; rfl) he3.one (by omega)) rfl rfl ?_; rintro u z3 hz3 ⟨A4, rfl, hr4⟩; ((try simp only [seval, go_sem]);repeat((with_reducible first|refine vJ ?_|refine vK ?_);try simp only [seval, go_sem]))
        have w1 : IntKind.i64.wrap (sent - (n : Int)) = sent - n := wrap_in (by omega) (by omega)
        have w2 : IntKind.i64.wrap (count + (n : Int)) = count + n := wrap_in (by omega) (by omega)
        have s1 : Sl pRep z3 (flight.drop n) (.slice A4 (flight.drop n).length (flight.length - n)) := ⟨_, _, cs3, rfl, by omega, he3.mono hz3, hr4⟩
        have s2 : Sl pRep z3 queue (.slice B2 queue.length queue.length) := hq2.mono hz3
        have w3 : (if sent - (n : Int) > 0 then sent - (n : Int) else 0) = max 0 (sent - n) := by split <;> omega
        have hb2 : (say == 2) = decide (say = 2) := by rw [Bool.eq_iff_iff]; simp
        clear hto he he2 hr hr2 hr4 hrx he3 hr3 hf2 hq2 hx hI hp1 hp2
        (try simp only [seval, go_sem]); repeat' (first | (with_reducible refine vsI.id ?_; (try simp only [seval, go_sem])) | (with_reducible refine vcI_cond ?_; (try simp only [seval, go_sem])) | (with_reducible refine guardR.split (fun hg => ?_) (fun hg => ?_) <;> (try simp only [hg]) <;> simp only [seval, go_sem]) | (with_reducible refine condI.split (fun hg => ?_) (fun hg => ?_) <;> (try simp only [hg]) <;> (try simp only [seval, go_sem])) | (with_reducible refine callM.toT ?_))
        all_goals (((try simp only [seval, go_sem]);repeat((with_reducible first|refine vJ ?_|refine vK ?_);try simp only [seval, go_sem])); with_reducible refine FinV.of ?_; simp only [finE, finS, gt, look, SV.toV, SC.toV, allV, tupV, zq1, zq2, zq3, zq4, Nat.reduceAdd, Nat.reduceEqDiff, reduceCtorEq, if_true, if_false, reduceIte, Nat.succ_ne_self, true_and, zq5, zq7, zq8])
        all_goals refine ⟨A4, flight.length - n, B2, queue.length, ?_, s1, s2⟩
        all_goals simp only [w1, w2, hd1, w3, hb2]
        all_goals clear s1 s2 w1 w2 w3 hb2 e4 e5 hd1 hk3 hnl hn0 hfar d1 hsn hcn hn
        all_goals simp_all
  · simp only [seval, go_sem]
    ((try simp only [seval, go_sem]);repeat((with_reducible first|refine vJ ?_|refine vK ?_);try simp only [seval, go_sem]))
    (try with_reducible refine callM.toT ?_); refine callP (txcopy_i ⟨next, acked, flight, sent, queue, asks, tries, held, count, dead⟩ _ _ z1 (Sl.mono hz1 ⟨A, k, cs, rfl, hka, he, hr⟩) (Sl.mono hz1 ⟨B, k2, cs2, rfl, hk2, he2, hr2⟩) (by show flight.length ≤ _; omega) (by show queue.length ≤ _; omega) hp1 hp2) rfl rfl ?_; rintro u z2 hz2 ⟨A2, B2, rfl, hf2, hq2⟩; ((try simp only [seval, go_sem]);repeat((with_reducible first|refine vJ ?_|refine vK ?_);try simp only [seval, go_sem]))
    dsimp only at hf2 hq2
    cases dead with
    | true =>
      ((try simp only [seval, go_sem]);repeat((with_reducible first|refine vJ ?_|refine vK ?_);try simp only [seval, go_sem]))
      (((try simp only [seval, go_sem]);repeat((with_reducible first|refine vJ ?_|refine vK ?_);try simp only [seval, go_sem])); with_reducible refine FinV.of ?_; simp only [finE, finS, gt, look, SV.toV, SC.toV, allV, tupV, zq1, zq2, zq3, zq4, Nat.reduceAdd, Nat.reduceEqDiff, reduceCtorEq, if_true, if_false, reduceIte, Nat.succ_ne_self, true_and, zq5, zq7, zq8])
      rw [txHear_dead rfl]
      exact ⟨_, _, _, _, rfl, hf2, hq2⟩
    | false =>
      ((try simp only [seval, go_sem]);repeat((with_reducible first|refine vJ ?_|refine vK ?_);try simp only [seval, go_sem]))
      (try with_reducible refine callM.toT ?_); refine callP (far_i acked ack z2 (by omega) (by omega) (by omega)) rfl rfl ?_; rintro _ _ - ⟨rfl, rfl⟩; ((try simp only [seval, go_sem]);repeat((with_reducible first|refine vJ ?_|refine vK ?_);try simp only [seval, go_sem]))
      by_cases hfar : far acked ack > flight.length
      · have d1 : decide (far acked ack > (flight.length : Int)) = true := decide_eq_true hfar
        rw [txHear_end rfl hfar]
        simp only [d1]
        ((try simp only [seval, go_sem]);repeat((with_reducible first|refine vJ ?_|refine vK ?_);try simp only [seval, go_sem]))
        (((try simp only [seval, go_sem]);repeat((with_reducible first|refine vJ ?_|refine vK ?_);try simp only [seval, go_sem])); with_reducible refine FinV.of ?_; simp only [finE, finS, gt, look, SV.toV, SC.toV, allV, tupV, zq1, zq2, zq3, zq4, Nat.reduceAdd, Nat.reduceEqDiff, reduceCtorEq, if_true, if_false, reduceIte, Nat.succ_ne_self, true_and, zq5, zq7, zq8])
        exact ⟨_, _, _, _, rfl, hf2, hq2⟩
      · have d1 : decide (far acked ack > (flight.length : Int)) = false := decide_eq_false hfar
        rw [txHear_go rfl hfar]
        simp only [d1]
        ((try simp only [seval, go_sem]);repeat((with_reducible first|refine vJ ?_|refine vK ?_);try simp only [seval, go_sem]))
        have hnl : n ≤ flight.length := by omega
        simp only [hn, Int.toNat_natCast] at *
        refine ⟨by omega, ?_⟩; ((try simp only [seval, go_sem]);repeat((with_reducible first|refine vJ ?_|refine vK ?_);try simp only [seval, go_sem]))
        obtain ⟨A3, k3, cs3, e3, hk3, he3, hr3⟩ := Sl.of_drop hf2 n
        injection e3 with e3 e4 e5
        subst e3
        have hd1 : (flight.drop n).length = flight.length - n := by simp
        (try with_reducible refine callM.toT ?_); refine callP (cloneP _ _ _ cs3 z2 hr3 (by rw [he3.length, hd1]; rfl) he3.one (by omega)) rfl rfl ?_; rintro u z3 hz3 ⟨A4, rfl, hr4⟩; ((try simp only [seval, go_sem]);repeat((with_reducible first|refine vJ ?_|refine vK ?_);try simp only [seval, go_sem]))
        have w1 : IntKind.i64.wrap (sent - (n : Int)) = sent - n := wrap_in (by omega) (by omega)
        have w2 : IntKind.i64.wrap (count + (n : Int)) = count + n := wrap_in (by omega) (by omega)
        have s1 : Sl pRep z3 (flight.drop n) (.slice A4 (flight.drop n).length (flight.length - n)) := ⟨_, _, cs3, rfl, by omega, he3.mono hz3, hr4⟩
        have s2 : Sl pRep z3 queue (.slice B2 queue.length queue.length) := hq2.mono hz3
        have w3 : (if sent - (n : Int) > 0 then sent - (n : Int) else 0) = max 0 (sent - n) := by split <;> omega
        have hb2 : (say == 2) = decide (say = 2) := by rw [Bool.eq_iff_iff]; simp
        clear hto he he2 hr hr2 hr4 hrx he3 hr3 hf2 hq2 hx hI hp1 hp2
        (try simp only [seval, go_sem]); repeat' (first | (with_reducible refine vsI.id ?_; (try simp only [seval, go_sem])) | (with_reducible refine vcI_cond ?_; (try simp only [seval, go_sem])) | (with_reducible refine guardR.split (fun hg => ?_) (fun hg => ?_) <;> (try simp only [hg]) <;> simp only [seval, go_sem]) | (with_reducible refine condI.split (fun hg => ?_) (fun hg => ?_) <;> (try simp only [hg]) <;> (try simp only [seval, go_sem])) | (with_reducible refine callM.toT ?_))
        all_goals (((try simp only [seval, go_sem]);repeat((with_reducible first|refine vJ ?_|refine vK ?_);try simp only [seval, go_sem])); with_reducible refine FinV.of ?_; simp only [finE, finS, gt, look, SV.toV, SC.toV, allV, tupV, zq1, zq2, zq3, zq4, Nat.reduceAdd, Nat.reduceEqDiff, reduceCtorEq, if_true, if_false, reduceIte, Nat.succ_ne_self, true_and, zq5, zq7, zq8])
        all_goals refine ⟨A4, flight.length - n, B2, queue.length, ?_, s1, s2⟩
        all_goals simp only [w1, w2, hd1, w3, hb2]
        all_goals clear s1 s2 w1 w2 w3 hb2 e4 e5 hd1 hk3 hnl hn0 hfar d1 hsn hcn hn
        all_goals simp_all
theorem rxok_i (r : Rx) (q : Value) (z : Zc) (hI : RxI r) (h : By z r.join.got q) : PSpec Tryz.prog 25 [vRx r q] z fun u z' => u = .bool true ∧ z = z' := by
  obtain ⟨A, k, rfl, hk, hB, hr⟩ := h.form
  have hj := hI.join.le
  have hjl : -1000000000 ≤ r.join.len := by rcases hI.join with h | h <;> omega
  have hcn := hI.count
  (refine pspec_enter Tryz.func25 ic25_ok fr25_ok Tryz.ntmps25 ?_; simp only [seval, go_sem, ic25, fr25])
  ((try simp only [seval, go_sem]);repeat((with_reducible first|refine vJ ?_|refine vK ?_);try simp only [seval, go_sem]))
  (try with_reducible refine callM.toT ?_); refine callP (isnum r.expect z) rfl rfl ?_; rintro _ _ - ⟨rfl, rfl⟩; ((try simp only [seval, go_sem]);repeat((with_reducible first|refine vJ ?_|refine vK ?_);try simp only [seval, go_sem]))
  simp only [isNum_iff.2 hI.expect]
  ((try simp only [seval, go_sem]);repeat((with_reducible first|refine vJ ?_|refine vK ?_);try simp only [seval, go_sem]))
  (try with_reducible refine callM.toT ?_); refine callP (in_i r.count 0 9999 z) rfl rfl ?_; rintro _ _ - ⟨rfl, rfl⟩; ((try simp only [seval, go_sem]);repeat((with_reducible first|refine vJ ?_|refine vK ?_);try simp only [seval, go_sem]))
  simp only [inB_iff.2 hcn]
  ((try simp only [seval, go_sem]);repeat((with_reducible first|refine vJ ?_|refine vK ?_);try simp only [seval, go_sem]))
  (try with_reducible refine callM.toT ?_); refine callP (numof_i r.count z (by omega)) rfl rfl ?_; rintro _ _ - ⟨rfl, rfl⟩; ((try simp only [seval, go_sem]);repeat((with_reducible first|refine vJ ?_|refine vK ?_);try simp only [seval, go_sem]))
  simp only [seval, go_sem, hI.num, beq_self_eq_true]
  ((try simp only [seval, go_sem]);repeat((with_reducible first|refine vJ ?_|refine vK ?_);try simp only [seval, go_sem]))
  (try with_reducible refine callM.toT ?_); refine callP (joinok_i r.join A k z (by omega) hjl) rfl rfl ?_; rintro _ _ - ⟨rfl, rfl⟩; ((try simp only [seval, go_sem]);repeat((with_reducible first|refine vJ ?_|refine vK ?_);try simp only [seval, go_sem]))
  simp only [joinOk_iff.2 hI.join]
  (((try simp only [seval, go_sem]);repeat((with_reducible first|refine vJ ?_|refine vK ?_);try simp only [seval, go_sem])); with_reducible refine FinV.of ?_; simp only [finE, finS, gt, look, SV.toV, SC.toV, allV, tupV, zq1, zq2, zq3, zq4, Nat.reduceAdd, Nat.reduceEqDiff, reduceCtorEq, if_true, if_false, reduceIte, Nat.succ_ne_self, true_and, zq5, zq7, zq8])
theorem rxcopy_i (r : Rx) (q : Value) (z : Zc) (h : By z r.join.got q) (hl : r.join.got.length ≤ 1000000000) : PSpec Tryz.prog 47 [vRx r q] z fun u z' => ∃ A, u = vRx r (.slice A r.join.got.length r.join.got.length) ∧ By z' r.join.got (.slice A r.join.got.length r.join.got.length) := by
  obtain ⟨A, k, rfl, hk, hB, hr⟩ := h.form
  (refine pspec_enter Tryz.func47 ic47_ok fr47_ok Tryz.ntmps47 ?_; simp only [seval, go_sem, ic47, fr47])
  ((try simp only [seval, go_sem]);repeat((with_reducible first|refine vJ ?_|refine vK ?_);try simp only [seval, go_sem]))
  (try with_reducible refine callM.toT ?_); refine callP (cloneBy r.join.got _ z h hl) rfl rfl ?_; rintro u z1 hz1 ⟨A2, rfl, _, hs⟩; ((try simp only [seval, go_sem]);repeat((with_reducible first|refine vJ ?_|refine vK ?_);try simp only [seval, go_sem]))
  (((try simp only [seval, go_sem]);repeat((with_reducible first|refine vJ ?_|refine vK ?_);try simp only [seval, go_sem])); with_reducible refine FinV.of ?_; simp only [finE, finS, gt, look, SV.toV, SC.toV, allV, tupV, zq1, zq2, zq3, zq4, Nat.reduceAdd, Nat.reduceEqDiff, reduceCtorEq, if_true, if_false, reduceIte, Nat.succ_ne_self, true_and, zq5, zq7, zq8])
  exact ⟨_, rfl, By.mk (Nat.le_refl _) hB hs⟩
theorem say_i (r : Rx) (A : Option Addr) (n k : Nat) (what : Int) (fin : Bool) (z : Zc) : PSpec Tryz.prog 50 [vRx r (.slice A n k), .int .i64 what, .bool fin] z fun u z' => u = vFrm (sayFrm r.expect false fin what) (.slice none 0 0) ∧ z = z' := by
  (refine pspec_enter Tryz.func50 ic50_ok fr50_ok Tryz.ntmps50 ?_; simp only [seval, go_sem, ic50, fr50])
  ((try simp only [seval, go_sem]);repeat((with_reducible first|refine vJ ?_|refine vK ?_);try simp only [seval, go_sem]))
  (((try simp only [seval, go_sem]);repeat((with_reducible first|refine vJ ?_|refine vK ?_);try simp only [seval, go_sem])); with_reducible refine FinV.of ?_; simp only [finE, finS, gt, look, SV.toV, SC.toV, allV, tupV, zq1, zq2, zq3, zq4, Nat.reduceAdd, Nat.reduceEqDiff, reduceCtorEq, if_true, if_false, reduceIte, Nat.succ_ne_self, true_and, zq5, zq7, zq8])
  first | rfl | exact ⟨rfl, rfl⟩ | simp [sayFrm]
abbrev rxA (b : Nat) (r : Rx) (v : Value) : Asrt := ptrA 57 b [.int .i64 r.expect, .int .i64 r.count, .int .i64 r.join.len, v, .bool r.again, .bool r.busy, .bool r.dead]
theorem rxhear1 (b : Nat) (c : Cfg) (r : Rx) (f : Frm) (q u : Value) (z : Zc) (hq : By z r.join.got q) (hu : By z f.data u) (hI : RxI r) (hf : frmOk f = true) (hk : f.kind = 1 ∨ f.kind = 2) :
    Spec Tryz.prog 48 [.pointer (some ⟨b, 0, none⟩), vCfg c, vFrm f u] z (starL [rxA b r q]) fun v z' A' => ∃ A k B n b' D m d, v = .tuple #[.slice B n b', .slice D m d] ∧ A' = starL [rxA b (rxHear c r f).1 (.slice A (rxHear c r f).1.join.got.length k)] ∧ By z' (rxHear c r f).1.join.got (.slice A (rxHear c r f).1.join.got.length k) ∧ Sl sduRep z' (rxHear c r f).2.1 (.slice B n b') ∧ Sl fRep z' (rxHear c r f).2.2 (.slice D m d) := by
  obtain ⟨A, k, rfl, hka, hB, hr⟩ := hq.form
  obtain ⟨A2, k2, rfl, hk2, hB2, hr2⟩ := hu.form
  obtain ⟨expect, count, join, again, busy, dead⟩ := r
  have hex := hI.expect
  have hct := hI.count
  have hjI := hI.join
  dsimp only at *
  (refine spec_enterP [] Tryz.func48 ic48_ok fr48_ok Tryz.ntmps48 rfl ?_; simp only [seval, go_sem, ic48, fr48, zipL, vals])
  ((try simp only [seval, go_sem]);repeat((with_reducible first|refine vJ ?_|refine vK ?_);try simp only [seval, go_sem]))
  cases dead with
  | true =>
    ((try simp only [seval, go_sem]);repeat((with_reducible first|refine vJ ?_|refine vK ?_);try simp only [seval, go_sem]))
    (refine FinV.give 1000 0 2001 2000 rfl rfl rfl ?_); simp only [seval, go_sem, giveSt, subV, subC, subE, subL]
    (refine FinV.pk 999 [1000] ?_); dsimp only
    (((try simp only [seval, go_sem]);repeat((with_reducible first|refine vJ ?_|refine vK ?_);try simp only [seval, go_sem])); refine FinV.own 999 rfl ?_; simp only [finE, finS, gt, look, SV.toV, SC.toV, allV, tupV, zq1, zq2, zq3, zq4, Nat.reduceAdd, Nat.reduceEqDiff, reduceCtorEq, if_true, if_false, reduceIte, Nat.succ_ne_self, true_and, zq5, zq7, zq8])
    rw [show rxHear c ⟨expect, count, join, again, busy, true⟩ f = (⟨expect, count, join, again, busy, true⟩, [], []) by unfold rxHear; rw [if_pos rfl]]
    exact ⟨A, k, _, _, _, _, _, _, rfl, rfl, hq, Sl.nil _ _ _, Sl.nil _ _ _⟩
  | false =>
    rcases hk with h1 | h1
    · have e1 : (f.kind == 2) = false := by rw [h1]; rfl
      obtain ⟨hp, hs⟩ := frm1 hf h1
      ((try simp only [seval, go_sem]);repeat((with_reducible first|refine vJ ?_|refine vK ?_);try simp only [seval, go_sem]))
      simp only [e1]
      ((try simp only [seval, go_sem]);repeat((with_reducible first|refine vJ ?_|refine vK ?_);try simp only [seval, go_sem]))
      simp only [e1]
      ((try simp only [seval, go_sem]);repeat((with_reducible first|refine vJ ?_|refine vK ?_);try simp only [seval, go_sem]))
      cases busy with
      | true =>
        ((try simp only [seval, go_sem]);repeat((with_reducible first|refine vJ ?_|refine vK ?_);try simp only [seval, go_sem]))
        (try with_reducible refine callM.toT ?_); refine callP (say_i ⟨expect, count, join, again, true, false⟩ A join.got.length k 2 false z) rfl rfl ?_; rintro _ _ - ⟨rfl, rfl⟩; ((try simp only [seval, go_sem]);repeat((with_reducible first|refine vJ ?_|refine vK ?_);try simp only [seval, go_sem]))
        (refine FinV.frz 3 rfl rfl (fun b4 z4 hz4 hr4 => ?_)); dsimp only at hz4; simp only [seval, go_sem, Go.Proofs.YtpjaidjnamngaaaGreat.frz, subV, subC, subE, subL]
        (refine FinV.give 1000 0 2001 2000 rfl rfl rfl ?_); simp only [seval, go_sem, giveSt, subV, subC, subE, subL]
        (refine FinV.pk 999 [1000] ?_); dsimp only
        (((try simp only [seval, go_sem]);repeat((with_reducible first|refine vJ ?_|refine vK ?_);try simp only [seval, go_sem])); refine FinV.own 999 rfl ?_; simp only [finE, finS, gt, look, SV.toV, SC.toV, allV, tupV, zq1, zq2, zq3, zq4, Nat.reduceAdd, Nat.reduceEqDiff, reduceCtorEq, if_true, if_false, reduceIte, Nat.succ_ne_self, true_and, zq5, zq7, zq8])
        rw [show rxHear c ⟨expect, count, join, again, true, false⟩ f = (⟨expect, count, join, again, true, false⟩, [], [sayFrm expect false false 2]) by unfold rxHear; rw [if_neg (by simp), if_neg (by omega), if_pos rfl]]
        exact ⟨A, k, _, _, _, _, _, _, rfl, rfl, hq.mono hz4, Sl.nil _ _ _, _, _, _, rfl, Nat.le_refl _, Els.single (d := fRep) ⟨_, rfl, Sl.nil _ _ _⟩, hr4⟩
      | false =>
        ((try simp only [seval, go_sem]);repeat((with_reducible first|refine vJ ?_|refine vK ?_);try simp only [seval, go_sem]))
        by_cases hse : f.seq = expect
        · have e2 : (f.seq == expect) = true := beq_iff_eq.2 hse
          have hrt : rxHear c ⟨expect, count, join, again, false, false⟩ f = ((rxTake c ⟨expect, count, join, again, false, false⟩ f).1, (rxTake c ⟨expect, count, join, again, false, false⟩ f).2, []) := by unfold rxHear; rw [if_neg (by simp), if_neg (by omega), if_neg (by simp), if_pos hse]
          simp only [e2]
          ((try simp only [seval, go_sem]);repeat((with_reducible first|refine vJ ?_|refine vK ?_);try simp only [seval, go_sem]))
          (try simp only [seval, go_sem]); repeat' (first | (with_reducible refine vsI.id ?_; (try simp only [seval, go_sem])) | (with_reducible refine vcI_cond ?_; (try simp only [seval, go_sem])) | (with_reducible refine guardR.split (fun hg => ?_) (fun hg => ?_) <;> (try simp only [hg]) <;> simp only [seval, go_sem]) | (with_reducible refine condI.split (fun hg => ?_) (fun hg => ?_) <;> (try simp only [hg]) <;> (try simp only [seval, go_sem])) | (with_reducible refine callM.toT ?_))
          · have hno : f.len > c.mtu ∨ (f.data.length : Int) > c.mps ∨ count = 9999 := by simp at *; omega
            (refine FinV.give 1000 0 2001 2000 rfl rfl rfl ?_); simp only [seval, go_sem, giveSt, subV, subC, subE, subL]
            (refine FinV.pk 999 [1000] ?_); dsimp only
            (((try simp only [seval, go_sem]);repeat((with_reducible first|refine vJ ?_|refine vK ?_);try simp only [seval, go_sem])); refine FinV.own 999 rfl ?_; simp only [finE, finS, gt, look, SV.toV, SC.toV, allV, tupV, zq1, zq2, zq3, zq4, Nat.reduceAdd, Nat.reduceEqDiff, reduceCtorEq, if_true, if_false, reduceIte, Nat.succ_ne_self, true_and, zq5, zq7, zq8])
            rw [hrt, rxTake_end hno]
            exact ⟨A, k, _, _, _, _, _, _, rfl, rfl, hq, Sl.nil _ _ _, Sl.nil _ _ _⟩
          · have hno : f.len > c.mtu ∨ (f.data.length : Int) > c.mps ∨ count = 9999 := by simp at *; omega
            (refine FinV.give 1000 0 2001 2000 rfl rfl rfl ?_); simp only [seval, go_sem, giveSt, subV, subC, subE, subL]
            (refine FinV.pk 999 [1000] ?_); dsimp only
            (((try simp only [seval, go_sem]);repeat((with_reducible first|refine vJ ?_|refine vK ?_);try simp only [seval, go_sem])); refine FinV.own 999 rfl ?_; simp only [finE, finS, gt, look, SV.toV, SC.toV, allV, tupV, zq1, zq2, zq3, zq4, Nat.reduceAdd, Nat.reduceEqDiff, reduceCtorEq, if_true, if_false, reduceIte, Nat.succ_ne_self, true_and, zq5, zq7, zq8])
            rw [hrt, rxTake_end hno]
            exact ⟨A, k, _, _, _, _, _, _, rfl, rfl, hq, Sl.nil _ _ _, Sl.nil _ _ _⟩
          · have hno : f.len > c.mtu ∨ (f.data.length : Int) > c.mps ∨ count = 9999 := by simp at *; omega
            (refine FinV.give 1000 0 2001 2000 rfl rfl rfl ?_); simp only [seval, go_sem, giveSt, subV, subC, subE, subL]
            (refine FinV.pk 999 [1000] ?_); dsimp only
            (((try simp only [seval, go_sem]);repeat((with_reducible first|refine vJ ?_|refine vK ?_);try simp only [seval, go_sem])); refine FinV.own 999 rfl ?_; simp only [finE, finS, gt, look, SV.toV, SC.toV, allV, tupV, zq1, zq2, zq3, zq4, Nat.reduceAdd, Nat.reduceEqDiff, reduceCtorEq, if_true, if_false, reduceIte, Nat.succ_ne_self, true_and, zq5, zq7, zq8])
            rw [hrt, rxTake_end hno]
            exact ⟨A, k, _, _, _, _, _, _, rfl, rfl, hq, Sl.nil _ _ _, Sl.nil _ _ _⟩
          · rename_i h0 h2
            have hno : ¬ (f.len > c.mtu ∨ (f.data.length : Int) > c.mps ∨ count = 9999) := by simp at h0 h2 hg; omega
            have hj := hjI.le
            have hpb := pieceOk_bound hp
            have hjl : 0 ≤ join.len := by rcases hjI with h | h <;> omega
            have w1 : IntKind.i64.wrap (count + 1) = count + 1 := wrap_in (by omega) (by omega)
            rw [hrt]
            (with_reducible refine joinV.id ?_; simp only [seval, go_sem])
            refine And.intro ?_ ?_
            all_goals
              (try with_reducible refine callM.toT ?_); refine callP (puti join ⟨f.seg, f.len, f.data⟩ _ _ z hq hu (by omega) (by show f.data.length ≤ _; omega) hjl (by show 0 ≤ f.seg ∧ f.seg ≤ 3; omega)) rfl rfl ?_; rintro v z1 hz1 ⟨A3, k3, A4, k4, rfl, h3, h4⟩; ((try simp only [seval, go_sem]);repeat((with_reducible first|refine vJ ?_|refine vK ?_);try simp only [seval, go_sem]))
            all_goals (try simp only [seval, go_sem]); repeat' (first | (with_reducible refine vsI.id ?_; (try simp only [seval, go_sem])) | (with_reducible refine vcI_cond ?_; (try simp only [seval, go_sem])) | (with_reducible refine guardR.split (fun hg => ?_) (fun hg => ?_) <;> (try simp only [hg]) <;> simp only [seval, go_sem]) | (with_reducible refine condI.split (fun hg => ?_) (fun hg => ?_) <;> (try simp only [hg]) <;> (try simp only [seval, go_sem])) | (with_reducible refine callM.toT ?_) | (refine callP (numnext_i expect _ (by omega)) rfl rfl ?_; rintro _ _ - ⟨rfl, rfl⟩; (try simp only [seval, go_sem])))
            · have h33 : (segPut join ⟨f.seg, f.len, f.data⟩).2.2 = 3 := by simpa using hg
              (refine FinV.give 1000 0 2001 2000 rfl rfl rfl ?_); simp only [seval, go_sem, giveSt, subV, subC, subE, subL]
              (refine FinV.pk 999 [1000] ?_); dsimp only
              (((try simp only [seval, go_sem]);repeat((with_reducible first|refine vJ ?_|refine vK ?_);try simp only [seval, go_sem])); refine FinV.own 999 rfl ?_; simp only [finE, finS, gt, look, SV.toV, SC.toV, allV, tupV, zq1, zq2, zq3, zq4, Nat.reduceAdd, Nat.reduceEqDiff, reduceCtorEq, if_true, if_false, reduceIte, Nat.succ_ne_self, true_and, zq5, zq7, zq8])
              rw [rxTake_bad hno h33]
              exact ⟨A3, k3, _, _, _, _, _, _, rfl, rfl, h3, Sl.nil _ _ _, Sl.nil _ _ _⟩
            · have h33 : (segPut join ⟨f.seg, f.len, f.data⟩).2.2 = 2 := by simpa using hg
              (refine FinV.frz 4 rfl rfl (fun b4 z4 hz4 hr4 => ?_)); dsimp only at hz4; simp only [seval, go_sem, Go.Proofs.YtpjaidjnamngaaaGreat.frz, subV, subC, subE, subL]
              (refine FinV.give 1000 0 2001 2000 rfl rfl rfl ?_); simp only [seval, go_sem, giveSt, subV, subC, subE, subL]
              (refine FinV.pk 999 [1000] ?_); dsimp only
              (((try simp only [seval, go_sem]);repeat((with_reducible first|refine vJ ?_|refine vK ?_);try simp only [seval, go_sem])); refine FinV.own 999 rfl ?_; simp only [finE, finS, gt, look, SV.toV, SC.toV, allV, tupV, zq1, zq2, zq3, zq4, Nat.reduceAdd, Nat.reduceEqDiff, reduceCtorEq, if_true, if_false, reduceIte, Nat.succ_ne_self, true_and, zq5, zq7, zq8])
              rw [w1, rxTake_yes hno (by simp only; omega), if_pos h33]
              exact ⟨A3, k3, _, _, _, _, _, _, rfl, rfl, h3.mono hz4, ⟨_, _, _, rfl, Nat.le_refl _, Els.single (d := sduRep) ⟨_, rfl, h4.mono hz4⟩, hr4⟩, Sl.nil _ _ _⟩
            · have h33 : (segPut join ⟨f.seg, f.len, f.data⟩).2.2 ≠ 2 := by simpa using hg
              (refine FinV.give 1000 0 2001 2000 rfl rfl rfl ?_); simp only [seval, go_sem, giveSt, subV, subC, subE, subL]
              (refine FinV.pk 999 [1000] ?_); dsimp only
              (((try simp only [seval, go_sem]);repeat((with_reducible first|refine vJ ?_|refine vK ?_);try simp only [seval, go_sem])); refine FinV.own 999 rfl ?_; simp only [finE, finS, gt, look, SV.toV, SC.toV, allV, tupV, zq1, zq2, zq3, zq4, Nat.reduceAdd, Nat.reduceEqDiff, reduceCtorEq, if_true, if_false, reduceIte, Nat.succ_ne_self, true_and, zq5, zq7, zq8])
              rw [w1, rxTake_yes hno (by rename_i hg1; simpa using hg1), if_neg h33]
              exact ⟨A3, k3, _, _, _, _, _, _, rfl, rfl, h3, Sl.nil _ _ _, Sl.nil _ _ _⟩
            · have h33 : (segPut join ⟨f.seg, f.len, f.data⟩).2.2 = 3 := by simpa using hg
              (refine FinV.give 1000 0 2001 2000 rfl rfl rfl ?_); simp only [seval, go_sem, giveSt, subV, subC, subE, subL]
              (refine FinV.pk 999 [1000] ?_); dsimp only
              (((try simp only [seval, go_sem]);repeat((with_reducible first|refine vJ ?_|refine vK ?_);try simp only [seval, go_sem])); refine FinV.own 999 rfl ?_; simp only [finE, finS, gt, look, SV.toV, SC.toV, allV, tupV, zq1, zq2, zq3, zq4, Nat.reduceAdd, Nat.reduceEqDiff, reduceCtorEq, if_true, if_false, reduceIte, Nat.succ_ne_self, true_and, zq5, zq7, zq8])
              rw [rxTake_bad hno h33]
              exact ⟨A3, k3, _, _, _, _, _, _, rfl, rfl, h3, Sl.nil _ _ _, Sl.nil _ _ _⟩
            · have h33 : (segPut join ⟨f.seg, f.len, f.data⟩).2.2 = 2 := by simpa using hg
              (refine FinV.frz 4 rfl rfl (fun b4 z4 hz4 hr4 => ?_)); dsimp only at hz4; simp only [seval, go_sem, Go.Proofs.YtpjaidjnamngaaaGreat.frz, subV, subC, subE, subL]
              (refine FinV.give 1000 0 2001 2000 rfl rfl rfl ?_); simp only [seval, go_sem, giveSt, subV, subC, subE, subL]
              (refine FinV.pk 999 [1000] ?_); dsimp only
              (((try simp only [seval, go_sem]);repeat((with_reducible first|refine vJ ?_|refine vK ?_);try simp only [seval, go_sem])); refine FinV.own 999 rfl ?_; simp only [finE, finS, gt, look, SV.toV, SC.toV, allV, tupV, zq1, zq2, zq3, zq4, Nat.reduceAdd, Nat.reduceEqDiff, reduceCtorEq, if_true, if_false, reduceIte, Nat.succ_ne_self, true_and, zq5, zq7, zq8])
              rw [w1, rxTake_yes hno (by simp only; omega), if_pos h33]
              exact ⟨A3, k3, _, _, _, _, _, _, rfl, rfl, h3.mono hz4, ⟨_, _, _, rfl, Nat.le_refl _, Els.single (d := sduRep) ⟨_, rfl, h4.mono hz4⟩, hr4⟩, Sl.nil _ _ _⟩
            · have h33 : (segPut join ⟨f.seg, f.len, f.data⟩).2.2 ≠ 2 := by simpa using hg
              (refine FinV.give 1000 0 2001 2000 rfl rfl rfl ?_); simp only [seval, go_sem, giveSt, subV, subC, subE, subL]
              (refine FinV.pk 999 [1000] ?_); dsimp only
              (((try simp only [seval, go_sem]);repeat((with_reducible first|refine vJ ?_|refine vK ?_);try simp only [seval, go_sem])); refine FinV.own 999 rfl ?_; simp only [finE, finS, gt, look, SV.toV, SC.toV, allV, tupV, zq1, zq2, zq3, zq4, Nat.reduceAdd, Nat.reduceEqDiff, reduceCtorEq, if_true, if_false, reduceIte, Nat.succ_ne_self, true_and, zq5, zq7, zq8])
              rw [w1, rxTake_yes hno (by rename_i hg1; simpa using hg1), if_neg h33]
              exact ⟨A3, k3, _, _, _, _, _, _, rfl, rfl, h3, Sl.nil _ _ _, Sl.nil _ _ _⟩
        · have e2 : (f.seq == expect) = false := beq_eq_false_iff_ne.2 hse
          simp only [e2]
          ((try simp only [seval, go_sem]);repeat((with_reducible first|refine vJ ?_|refine vK ?_);try simp only [seval, go_sem]))
          (try with_reducible refine callM.toT ?_); refine callP (far_i expect f.seq z (by omega) (by omega) (by omega)) rfl rfl ?_; rintro _ _ - ⟨rfl, rfl⟩; ((try simp only [seval, go_sem]);repeat((with_reducible first|refine vJ ?_|refine vK ?_);try simp only [seval, go_sem]))
          by_cases hfw : far expect f.seq < c.win
          · have d1 : decide (far expect f.seq < c.win) = true := decide_eq_true hfw
            simp only [d1]
            cases again with
            | true =>
              ((try simp only [seval, go_sem]);repeat((with_reducible first|refine vJ ?_|refine vK ?_);try simp only [seval, go_sem]))
              (refine FinV.give 1000 0 2001 2000 rfl rfl rfl ?_); simp only [seval, go_sem, giveSt, subV, subC, subE, subL]
              (refine FinV.pk 999 [1000] ?_); dsimp only
              (((try simp only [seval, go_sem]);repeat((with_reducible first|refine vJ ?_|refine vK ?_);try simp only [seval, go_sem])); refine FinV.own 999 rfl ?_; simp only [finE, finS, gt, look, SV.toV, SC.toV, allV, tupV, zq1, zq2, zq3, zq4, Nat.reduceAdd, Nat.reduceEqDiff, reduceCtorEq, if_true, if_false, reduceIte, Nat.succ_ne_self, true_and, zq5, zq7, zq8])
              rw [show rxHear c ⟨expect, count, join, true, false, false⟩ f = (⟨expect, count, join, true, false, false⟩, [], []) by unfold rxHear; rw [if_neg (by simp), if_neg (by omega), if_neg (by simp), if_neg hse, if_neg (by simp)]]
              exact ⟨A, k, _, _, _, _, _, _, rfl, rfl, hq, Sl.nil _ _ _, Sl.nil _ _ _⟩
            | false =>
              ((try simp only [seval, go_sem]);repeat((with_reducible first|refine vJ ?_|refine vK ?_);try simp only [seval, go_sem]))
              (try with_reducible refine callM.toT ?_); refine callP (say_i ⟨expect, count, join, true, false, false⟩ A join.got.length k 1 false z) rfl rfl ?_; rintro _ _ - ⟨rfl, rfl⟩; ((try simp only [seval, go_sem]);repeat((with_reducible first|refine vJ ?_|refine vK ?_);try simp only [seval, go_sem]))
              (refine FinV.frz 3 rfl rfl (fun b4 z4 hz4 hr4 => ?_)); dsimp only at hz4; simp only [seval, go_sem, Go.Proofs.YtpjaidjnamngaaaGreat.frz, subV, subC, subE, subL]
              (refine FinV.give 1000 0 2001 2000 rfl rfl rfl ?_); simp only [seval, go_sem, giveSt, subV, subC, subE, subL]
              (refine FinV.pk 999 [1000] ?_); dsimp only
              (((try simp only [seval, go_sem]);repeat((with_reducible first|refine vJ ?_|refine vK ?_);try simp only [seval, go_sem])); refine FinV.own 999 rfl ?_; simp only [finE, finS, gt, look, SV.toV, SC.toV, allV, tupV, zq1, zq2, zq3, zq4, Nat.reduceAdd, Nat.reduceEqDiff, reduceCtorEq, if_true, if_false, reduceIte, Nat.succ_ne_self, true_and, zq5, zq7, zq8])
              rw [show rxHear c ⟨expect, count, join, false, false, false⟩ f = (⟨expect, count, join, true, false, false⟩, [], [sayFrm expect false false 1]) by unfold rxHear; rw [if_neg (by simp), if_neg (by omega), if_neg (by simp), if_neg hse, if_pos ⟨hfw, rfl⟩]]
              exact ⟨A, k, _, _, _, _, _, _, rfl, rfl, hq.mono hz4, Sl.nil _ _ _, ⟨_, _, _, rfl, Nat.le_refl _, Els.single (d := fRep) ⟨_, rfl, Sl.nil _ _ _⟩, hr4⟩⟩
          · have d1 : decide (far expect f.seq < c.win) = false := decide_eq_false hfw
            simp only [d1]
            ((try simp only [seval, go_sem]);repeat((with_reducible first|refine vJ ?_|refine vK ?_);try simp only [seval, go_sem]))
            (refine FinV.give 1000 0 2001 2000 rfl rfl rfl ?_); simp only [seval, go_sem, giveSt, subV, subC, subE, subL]
            (refine FinV.pk 999 [1000] ?_); dsimp only
            (((try simp only [seval, go_sem]);repeat((with_reducible first|refine vJ ?_|refine vK ?_);try simp only [seval, go_sem])); refine FinV.own 999 rfl ?_; simp only [finE, finS, gt, look, SV.toV, SC.toV, allV, tupV, zq1, zq2, zq3, zq4, Nat.reduceAdd, Nat.reduceEqDiff, reduceCtorEq, if_true, if_false, reduceIte, Nat.succ_ne_self, true_and, zq5, zq7, zq8])
            rw [show rxHear c ⟨expect, count, join, again, false, false⟩ f = (⟨expect, count, join, again, false, false⟩, [], []) by unfold rxHear; rw [if_neg (by simp), if_neg (by omega), if_neg (by simp), if_neg hse, if_neg (by simp [hfw])]]
            exact ⟨A, k, _, _, _, _, _, _, rfl, rfl, hq, Sl.nil _ _ _, Sl.nil _ _ _⟩
    · have e1 : (f.kind == 2) = true := by rw [h1]; rfl
      ((try simp only [seval, go_sem]);repeat((with_reducible first|refine vJ ?_|refine vK ?_);try simp only [seval, go_sem]))
      simp only [e1]
      ((try simp only [seval, go_sem]);repeat((with_reducible first|refine vJ ?_|refine vK ?_);try simp only [seval, go_sem]))
      cases hpo : f.poll with
      | true =>
        try simp only [hpo]
        ((try simp only [seval, go_sem]);repeat((with_reducible first|refine vJ ?_|refine vK ?_);try simp only [seval, go_sem]))
        simp only [e1]
        ((try simp only [seval, go_sem]);repeat((with_reducible first|refine vJ ?_|refine vK ?_);try simp only [seval, go_sem]))
        (try with_reducible refine callM.toT ?_); refine callP (gowait_i busy z) rfl rfl ?_; rintro _ _ - ⟨rfl, rfl⟩; ((try simp only [seval, go_sem]);repeat((with_reducible first|refine vJ ?_|refine vK ?_);try simp only [seval, go_sem]))
        (try with_reducible refine callM.toT ?_); refine callP (say_i ⟨expect, count, join, false, busy, false⟩ A join.got.length k (goWait busy) true z) rfl rfl ?_; rintro _ _ - ⟨rfl, rfl⟩; ((try simp only [seval, go_sem]);repeat((with_reducible first|refine vJ ?_|refine vK ?_);try simp only [seval, go_sem]))
        (refine FinV.frz 3 rfl rfl (fun b4 z4 hz4 hr4 => ?_)); dsimp only at hz4; simp only [seval, go_sem, Go.Proofs.YtpjaidjnamngaaaGreat.frz, subV, subC, subE, subL]
        (refine FinV.give 1000 0 2001 2000 rfl rfl rfl ?_); simp only [seval, go_sem, giveSt, subV, subC, subE, subL]
        (refine FinV.pk 999 [1000] ?_); dsimp only
        (((try simp only [seval, go_sem]);repeat((with_reducible first|refine vJ ?_|refine vK ?_);try simp only [seval, go_sem])); refine FinV.own 999 rfl ?_; simp only [finE, finS, gt, look, SV.toV, SC.toV, allV, tupV, zq1, zq2, zq3, zq4, Nat.reduceAdd, Nat.reduceEqDiff, reduceCtorEq, if_true, if_false, reduceIte, Nat.succ_ne_self, true_and, zq5, zq7, zq8])
        rw [show rxHear c ⟨expect, count, join, again, busy, false⟩ f = (⟨expect, count, join, false, busy, false⟩, [], [sayFrm expect false true (goWait busy)]) by unfold rxHear; rw [if_neg (by simp), if_pos h1, if_pos hpo]]
        exact ⟨A, k, _, _, _, _, _, _, rfl, rfl, hq.mono hz4, Sl.nil _ _ _, ⟨_, _, _, rfl, Nat.le_refl _, Els.single (d := fRep) ⟨_, rfl, Sl.nil _ _ _⟩, hr4⟩⟩
      | false =>
        try simp only [hpo]
        ((try simp only [seval, go_sem]);repeat((with_reducible first|refine vJ ?_|refine vK ?_);try simp only [seval, go_sem]))
        (refine FinV.give 1000 0 2001 2000 rfl rfl rfl ?_); simp only [seval, go_sem, giveSt, subV, subC, subE, subL]
        (refine FinV.pk 999 [1000] ?_); dsimp only
        (((try simp only [seval, go_sem]);repeat((with_reducible first|refine vJ ?_|refine vK ?_);try simp only [seval, go_sem])); refine FinV.own 999 rfl ?_; simp only [finE, finS, gt, look, SV.toV, SC.toV, allV, tupV, zq1, zq2, zq3, zq4, Nat.reduceAdd, Nat.reduceEqDiff, reduceCtorEq, if_true, if_false, reduceIte, Nat.succ_ne_self, true_and, zq5, zq7, zq8])
        rw [show rxHear c ⟨expect, count, join, again, busy, false⟩ f = (⟨expect, count, join, again, busy, false⟩, [], []) by unfold rxHear; rw [if_neg (by simp), if_pos h1, if_neg (by simp [hpo])]]
        exact ⟨A, k, _, _, _, _, _, _, rfl, rfl, hq, Sl.nil _ _ _, Sl.nil _ _ _⟩
theorem rxhear_i (c : Cfg) (r : Rx) (f : Frm) (q u : Value) (z : Zc) (hc : CfgI c) (hq : By z r.join.got q) (hu : By z f.data u) (hI : RxI r) (hf : frmOk f = true) (hk : f.kind = 1 ∨ f.kind = 2) :
    PSpec Tryz.prog 20 [vCfg c, vRx r q, vFrm f u] z fun v z' => HearV z' (rxHear c r f) v := by
  have hro := rxok_i r q z hI hq
  obtain ⟨A, k, rfl, hka, hB, hr⟩ := hq.form
  obtain ⟨A2, k2, rfl, hk2, hB2, hr2⟩ := hu.form
  have hfb := frmOk_bound hf
  have hj := hI.join.le
  have hfo := frmOk_i f _ z hu (by omega)
  rw [hf] at hfo
  have hcl := fun b z2 A3 => @rxhear1 b c r f (.slice A3 r.join.got.length r.join.got.length) (.slice A2 f.data.length k2) z2
  have hgot := (rxHear_ok (c := c) hI hf hk).1.join.le
  obtain ⟨kind, seq, ack, poll, fin, say, seg, len, data⟩ := f
  dsimp only at *
  (refine pspec_enter Tryz.func20 ic20_ok fr20_ok Tryz.ntmps20 ?_; simp only [seval, go_sem, ic20, fr20])
  ((try simp only [seval, go_sem]);repeat((with_reducible first|refine vJ ?_|refine vK ?_);try simp only [seval, go_sem]))
  (try with_reducible refine callM.toT ?_); refine callP (cfgok_i c z) rfl rfl ?_; rintro _ _ - ⟨rfl, rfl⟩; ((try simp only [seval, go_sem]);repeat((with_reducible first|refine vJ ?_|refine vK ?_);try simp only [seval, go_sem]))
  simp only [cfgOk_iff.2 hc]
  ((try simp only [seval, go_sem]);repeat((with_reducible first|refine vJ ?_|refine vK ?_);try simp only [seval, go_sem]))
  (try with_reducible refine callM.toT ?_); refine callP (hro) rfl rfl ?_; rintro _ _ - ⟨rfl, rfl⟩; ((try simp only [seval, go_sem]);repeat((with_reducible first|refine vJ ?_|refine vK ?_);try simp only [seval, go_sem]))
  (try with_reducible refine callM.toT ?_); refine callP (hfo) rfl rfl ?_; rintro _ _ - ⟨rfl, rfl⟩; ((try simp only [seval, go_sem]);repeat((with_reducible first|refine vJ ?_|refine vK ?_);try simp only [seval, go_sem]))
  rcases hk with rfl | rfl
  · simp only [seval, go_sem]
    ((try simp only [seval, go_sem]);repeat((with_reducible first|refine vJ ?_|refine vK ?_);try simp only [seval, go_sem]))
    (try with_reducible refine callM.toT ?_); refine callP (rxcopy_i r _ z hq (by omega)) rfl rfl ?_; rintro v z2 hz2 ⟨A3, rfl, h3⟩; ((try simp only [seval, go_sem]);repeat((with_reducible first|refine vJ ?_|refine vK ?_);try simp only [seval, go_sem]))
    (refine callT.give 90 4 2001 rfl rfl (fun b => ?_)); simp only [seval, go_sem, giveSt, subV, subC, subE, subL]
    (try with_reducible refine callM.toT ?_); (refine callM.pk 91 [90] ?_); dsimp only
    have hcall := hcl b z2 A3 h3 (hu.mono hz2) hI hf (.inl rfl)
    generalize rxHear c r ⟨1, seq, ack, poll, fin, say, seg, len, data⟩ = tp at hcall hgot ⊢
    obtain ⟨⟨e1, e2, ⟨e3, e4⟩, e5, e6, e7⟩, sdus, sys⟩ := tp
    dsimp only at hcall hgot ⊢
    (try with_reducible refine callM.toT ?_); refine callW 91 (hcall) rfl rfl rfl rfl ?_; rintro v z3 A' hz3 ⟨A4, k4, B5, n5, b5, D6, m6, d6, rfl, rfl, h4, h5, h6⟩; (try simp only [seval, go_sem])
    (refine vsI.tf (Tf.open' 91 [92] rfl rfl rfl) ?_); simp only [seval, go_sem, zipL]
    (refine vsI.take 92 4 2001 rfl rfl rfl ?_); simp only [seval, go_sem, takeSt, unV, vals]; ((try simp only [seval, go_sem]);repeat((with_reducible first|refine vJ ?_|refine vK ?_);try simp only [seval, go_sem]))
    (try with_reducible refine callM.toT ?_); refine callP (rxcopy_i ⟨e1, e2, ⟨e3, e4⟩, e5, e6, e7⟩ _ z3 h4 (by show e4.length ≤ _; omega)) rfl rfl ?_; rintro v z4 hz4 ⟨A6, rfl, h7⟩; ((try simp only [seval, go_sem]);repeat((with_reducible first|refine vJ ?_|refine vK ?_);try simp only [seval, go_sem]))
    (((try simp only [seval, go_sem]);repeat((with_reducible first|refine vJ ?_|refine vK ?_);try simp only [seval, go_sem])); with_reducible refine FinV.of ?_; simp only [finE, finS, gt, look, SV.toV, SC.toV, allV, tupV, zq1, zq2, zq3, zq4, Nat.reduceAdd, Nat.reduceEqDiff, reduceCtorEq, if_true, if_false, reduceIte, Nat.succ_ne_self, true_and, zq5, zq7, zq8])
    exact ⟨_, _, _, _, _, _, _, _, rfl, h7, h5.mono hz4, h6.mono hz4⟩
  · simp only [seval, go_sem]
    ((try simp only [seval, go_sem]);repeat((with_reducible first|refine vJ ?_|refine vK ?_);try simp only [seval, go_sem]))
    (try with_reducible refine callM.toT ?_); refine callP (rxcopy_i r _ z hq (by omega)) rfl rfl ?_; rintro v z2 hz2 ⟨A3, rfl, h3⟩; ((try simp only [seval, go_sem]);repeat((with_reducible first|refine vJ ?_|refine vK ?_);try simp only [seval, go_sem]))
    (refine callT.give 90 4 2001 rfl rfl (fun b => ?_)); simp only [seval, go_sem, giveSt, subV, subC, subE, subL]
    (try with_reducible refine callM.toT ?_); (refine callM.pk 91 [90] ?_); dsimp only
    have hcall := hcl b z2 A3 h3 (hu.mono hz2) hI hf (.inr rfl)
    generalize rxHear c r ⟨2, seq, ack, poll, fin, say, seg, len, data⟩ = tp at hcall hgot ⊢
    obtain ⟨⟨e1, e2, ⟨e3, e4⟩, e5, e6, e7⟩, sdus, sys⟩ := tp
    dsimp only at hcall hgot ⊢
    (try with_reducible refine callM.toT ?_); refine callW 91 (hcall) rfl rfl rfl rfl ?_; rintro v z3 A' hz3 ⟨A4, k4, B5, n5, b5, D6, m6, d6, rfl, rfl, h4, h5, h6⟩; (try simp only [seval, go_sem])
    (refine vsI.tf (Tf.open' 91 [92] rfl rfl rfl) ?_); simp only [seval, go_sem, zipL]
    (refine vsI.take 92 4 2001 rfl rfl rfl ?_); simp only [seval, go_sem, takeSt, unV, vals]; ((try simp only [seval, go_sem]);repeat((with_reducible first|refine vJ ?_|refine vK ?_);try simp only [seval, go_sem]))
    (try with_reducible refine callM.toT ?_); refine callP (rxcopy_i ⟨e1, e2, ⟨e3, e4⟩, e5, e6, e7⟩ _ z3 h4 (by show e4.length ≤ _; omega)) rfl rfl ?_; rintro v z4 hz4 ⟨A6, rfl, h7⟩; ((try simp only [seval, go_sem]);repeat((with_reducible first|refine vJ ?_|refine vK ?_);try simp only [seval, go_sem]))
    (((try simp only [seval, go_sem]);repeat((with_reducible first|refine vJ ?_|refine vK ?_);try simp only [seval, go_sem])); with_reducible refine FinV.of ?_; simp only [finE, finS, gt, look, SV.toV, SC.toV, allV, tupV, zq1, zq2, zq3, zq4, Nat.reduceAdd, Nat.reduceEqDiff, reduceCtorEq, if_true, if_false, reduceIte, Nat.succ_ne_self, true_and, zq5, zq7, zq8])
    exact ⟨_, _, _, _, _, _, _, _, rfl, h7, h5.mono hz4, h6.mono hz4⟩
theorem rxack_i (r : Rx) (q : Value) (z : Zc) (hI : RxI r) (h : By z r.join.got q) : PSpec Tryz.prog 22 [vRx r q] z fun v z' => v = vFrm (rxAck r) (.slice none 0 0) ∧ z = z' := by
  have hro := rxok_i r q z hI h
  obtain ⟨A, k, rfl, hka, hB, hr⟩ := h.form
  (refine pspec_enter Tryz.func22 ic22_ok fr22_ok Tryz.ntmps22 ?_; simp only [seval, go_sem, ic22, fr22])
  ((try simp only [seval, go_sem]);repeat((with_reducible first|refine vJ ?_|refine vK ?_);try simp only [seval, go_sem]))
  (try with_reducible refine callM.toT ?_); refine callP (hro) rfl rfl ?_; rintro _ _ - ⟨rfl, rfl⟩; ((try simp only [seval, go_sem]);repeat((with_reducible first|refine vJ ?_|refine vK ?_);try simp only [seval, go_sem]))
  (try with_reducible refine callM.toT ?_); refine callP (gowait_i r.busy z) rfl rfl ?_; rintro _ _ - ⟨rfl, rfl⟩; ((try simp only [seval, go_sem]);repeat((with_reducible first|refine vJ ?_|refine vK ?_);try simp only [seval, go_sem]))
  (try with_reducible refine callM.toT ?_); refine callP (say_i r A r.join.got.length k (goWait r.busy) false z) rfl rfl ?_; rintro _ _ - ⟨rfl, rfl⟩; ((try simp only [seval, go_sem]);repeat((with_reducible first|refine vJ ?_|refine vK ?_);try simp only [seval, go_sem]))
  (((try simp only [seval, go_sem]);repeat((with_reducible first|refine vJ ?_|refine vK ?_);try simp only [seval, go_sem])); with_reducible refine FinV.of ?_; simp only [finE, finS, gt, look, SV.toV, SC.toV, allV, tupV, zq1, zq2, zq3, zq4, Nat.reduceAdd, Nat.reduceEqDiff, reduceCtorEq, if_true, if_false, reduceIte, Nat.succ_ne_self, true_and, zq5, zq7, zq8])
  exact ⟨rfl, trivial⟩
theorem txleft_i (t : Tx) (A B : Option Addr) (a b : Nat) (z : Zc) (h1 : t.flight.length ≤ 1000000) (h2 : t.queue.length ≤ 1000000) : PSpec Tryz.prog 23 [vTx t (.slice A t.flight.length a) (.slice B t.queue.length b)] z fun v z' => v = .int .i64 (txLeft t) ∧ z = z' := by
  have w1 : IntKind.i64.wrap ((t.flight.length : Int) + (t.queue.length : Int)) = (t.flight.length : Int) + t.queue.length := wrap_in (by omega) (by omega)
  (refine pspec_enter Tryz.func23 ic23_ok fr23_ok Tryz.ntmps23 ?_; simp only [seval, go_sem, ic23, fr23])
  ((try simp only [seval, go_sem]);repeat((with_reducible first|refine vJ ?_|refine vK ?_);try simp only [seval, go_sem]))
  simp only [w1]
  (((try simp only [seval, go_sem]);repeat((with_reducible first|refine vJ ?_|refine vK ?_);try simp only [seval, go_sem])); with_reducible refine FinV.of ?_; simp only [finE, finS, gt, look, SV.toV, SC.toV, allV, tupV, zq1, zq2, zq3, zq4, Nat.reduceAdd, Nat.reduceEqDiff, reduceCtorEq, if_true, if_false, reduceIte, Nat.succ_ne_self, true_and, zq5, zq7, zq8])
  exact ⟨rfl, trivial⟩
set_option maxRecDepth 512
set_option maxHeartbeats 200000
structure RxL (c : Cfg) (t : Tx) (r : Rx) (put got : List (List Int)) : Prop where
  tx : TxI c t
  rx : RxI r
  fl : t.flight = []
  td : t.dead = false
  ta : t.asks = false
  th : t.held = false
  rd : r.dead = false
  rb : r.busy = false
  cnt : t.count = r.count
  mtu : ∀ m ∈ put, (m.length : Int) ≤ c.mtu
  del : ∃ del, pieces c.mps put = del ++ t.queue ∧ joins del = some (r.join, got) ∧ t.count = del.length
theorem RxL.start {c : Cfg} (h : CfgI c) : RxL c tx0 rx0 [] [] := by
  have hw := h.win
  have ht := h.tri
  refine ⟨⟨h, by decide, by decide, by decide, ?_, by decide, by decide, ?_, by decide, by decide, fun p hp => absurd hp List.not_mem_nil, fun p hp => absurd hp List.not_mem_nil⟩, rxOk_iff.1 rfl, rfl, rfl, rfl, rfl, rfl, rfl, rfl, fun m hm => absurd hm List.not_mem_nil, [], rfl, rfl, rfl⟩
  · show ((0 : Nat) : Int) ≤ c.win; omega
  · show (0 : Int) ≤ 0 ∧ (0 : Int) ≤ c.tri; omega
theorem RxL.m24 {c : Cfg} {t : Tx} {r : Rx} {put got : List (List Int)} (h : RxL c t r put got) : ∀ m ∈ put, m.length ≤ 24 := fun m hm => by
  have := h.mtu m hm; have := h.tx.cfg.mtu; omega
theorem RxL.sum {c : Cfg} {t : Tx} {r : Rx} {put got : List (List Int)} (h : RxL c t r put got) : t.count + t.queue.length ≤ put.length * 24 := by
  obtain ⟨del, h1, h2, h3⟩ := h.del
  have := pieces_length c.mps put
  rw [h1, List.length_append] at this
  omega
theorem RxL.all {c : Cfg} {t : Tx} {r : Rx} {put got : List (List Int)} (h : RxL c t r put got) (hq : t.queue = []) : got = put := by
  obtain ⟨del, h1, h2, h3⟩ := h.del
  rw [hq, List.append_nil] at h1
  rw [← h1, joins_pieces h.tx.cfg.mps.1 h.tx.cfg.mps.2 h.m24] at h2
  injection h2 with h2
  injection h2 with _ h2
  exact h2.symm
theorem RxL.got {c : Cfg} {t : Tx} {r : Rx} {put got : List (List Int)} (h : RxL c t r put got) : got.length ≤ put.length := by
  obtain ⟨del, h1, h2, h3⟩ := h.del
  obtain ⟨s, k1, x, k2⟩ := joins_take (joins_pieces h.tx.cfg.mps.1 h.tx.cfg.mps.2 h.m24) del.length
  have e : (pieces c.mps put).take del.length = del := by rw [h1]; simp
  rw [e, h2] at k1
  injection k1 with k1
  subst k1
  rw [k2]; simp
theorem RxL.low {c : Cfg} {t : Tx} {r : Rx} {put got : List (List Int)} (h : RxL c t r put got) (hp : put.length ≤ 140) : Low t := by
  have := h.sum
  unfold Low
  rw [h.fl]
  simp only [List.length_nil]
  omega
theorem RxL.put {c : Cfg} {t : Tx} {r : Rx} {put got : List (List Int)} (h : RxL c t r put got) (hp : put.length ≤ 140) (d : List Int) : RxL c (txPut c t d).1 r (if (txPut c t d).2 = true then put ++ [d] else put) got := by
  have hok := (txPut_ok (sdu := d) h.tx (h.low hp)).1
  by_cases k : t.dead = true ∨ (d.length : Int) > c.mtu ∨ t.queue.length + (segCut d c.mps).length > 24
  · rw [txPut_same k]
    simpa using h
  · simp only [not_or] at k
    have e := txPut_good (c := c) (t := t) (sdu := d) h.td (by omega) (by omega)
    rw [e] at hok ⊢
    refine ⟨hok, h.rx, h.fl, h.td, h.ta, h.th, h.rd, h.rb, h.cnt, ?_, ?_⟩
    · intro m hm
      simp only [if_true] at hm
      rcases List.mem_append.1 hm with hm | hm
      · exact h.mtu m hm
      · rw [List.mem_singleton.1 hm]; omega
    · obtain ⟨del, h1, h2, h3⟩ := h.del
      refine ⟨del, ?_, h2, h3⟩
      simp only [if_true]
      rw [pieces_snoc, h1, List.append_assoc]
theorem RxL.stop {c : Cfg} {t : Tx} {r : Rx} {put got : List (List Int)} (h : RxL c t r put got) (hq : t.queue = []) : txSend false c t 0 = (t, none) := by
  have hs := h.tx.sent
  rw [h.fl] at hs
  refine txSend_stop ?_
  unfold txStops
  have : t.sent = t.flight.length := by rw [h.fl]; simp at hs ⊢; omega
  simp [this, hq]
theorem RxL.send {c : Cfg} {t : Tx} {r : Rx} {put got : List (List Int)} (h : RxL c t r put got) (hp : put.length ≤ 140) {p : Part} {q : List Part} (hq : t.queue = p :: q) :
    ∃ t1 f r2 sdus t2, txSend false c t 0 = (t1, some f) ∧ rxHear c r f = (r2, sdus, []) ∧ txHear t1 (rxAck r2) = t2 ∧ TxI c t1 ∧ frmOk f = true ∧ f.kind = 1 ∧ f.data.length ≤ 8 ∧ RxI r2 ∧ RxL c t2 r2 put (got ++ sdus) ∧ t2.queue = q ∧ sdus.length ≤ 1 := by
  have hs := h.tx.sent
  have hw := h.tx.cfg.win
  have hsum := h.sum
  have hlow := h.low hp
  have hac := h.tx.acked
  have hs0 : t.sent = 0 := by rw [h.fl] at hs; simp at hs; omega
  have hsl : t.sent = t.flight.length := by rw [h.fl, hs0]; rfl
  rw [hq, List.length_cons] at hsum
  have hst : txStops false c t = false := by
    unfold txStops txTop
    rw [h.td, h.ta, h.th, hq, h.fl]
    simp
    intro _
    omega
  have e1 := txSend_new (g := false) (c := c) (t := t) (ack := 0) hst hsl hq
  have hI1 := (txSend_ok (g := false) (ack := 0) h.tx hlow).1
  have hL1 := (txSend_ok (g := false) (ack := 0) h.tx hlow).2
  have hf1 := txSend_frm (g := false) (ack := 0) h.tx hlow (by omega) (by rw [e1])
  rw [e1] at hI1 hL1
  dsimp only at hI1 hL1
  obtain ⟨del, h1, h2, h3⟩ := h.del
  rw [hq] at h1
  have hmem : p ∈ pieces c.mps put := by rw [h1]; simp
  obtain ⟨m1, m2, m, m3, m4⟩ := pieces_lmem hmem
  have hmtu := h.mtu m m3
  have hpo : pieceOk p.seg p.len p.data.length = true := m1
  have hjn := joins_next (b := del.length) (p := p) (joins_pieces h.tx.cfg.mps.1 h.tx.cfg.mps.2 h.m24) (by rw [h1]; simp) (s := (r.join, got)) (by rw [h1]; simpa using h2)
  obtain ⟨j1, j2⟩ := hjn
  have hex : r.expect = t.acked := by rw [← h.rx.num, ← h.tx.num, h.cnt]
  have hseq : (t.acked + t.sent) % 8 = r.expect := by rw [hex, hs0]; omega
  have hno : ¬ ((dataFrm p ((t.acked + t.sent) % 8) 0).len > c.mtu ∨ ((dataFrm p ((t.acked + t.sent) % 8) 0).data.length : Int) > c.mps ∨ r.count = 9999) := by
    have := h.cnt
    simp only [dataFrm, not_or]
    refine ⟨by omega, by omega, by omega⟩
  have e2 : rxHear c r (dataFrm p ((t.acked + t.sent) % 8) 0) = ((rxTake c r (dataFrm p ((t.acked + t.sent) % 8) 0)).1, (rxTake c r (dataFrm p ((t.acked + t.sent) % 8) 0)).2, []) := by
    unfold rxHear
    rw [if_neg (by rw [h.rd]; simp), if_neg (by simp [dataFrm]), if_neg (by rw [h.rb]; simp), if_pos (by simp only [dataFrm]; exact hseq)]
  have e3 : rxTake c r (dataFrm p ((t.acked + t.sent) % 8) 0) = ({ r with join := (segPut r.join p).1, expect := numNext r.expect, count := r.count + 1, again := false }, if (segPut r.join p).2.2 = 2 then [(segPut r.join p).2.1] else []) := rxTake_yes (c := c) (r := r) (f := dataFrm p ((t.acked + t.sent) % 8) 0) hno j1
  have hok := rxTake_ok (c := c) (r := r) (f := dataFrm p ((t.acked + t.sent) % 8) 0) h.rx hpo
  have hex7 := h.rx.expect
  have hnn : numNext r.expect = (t.acked + 1) % 8 := by unfold numNext; rw [hex, Int.tmod_eq_emod_of_nonneg (by omega)]
  have hak : (rxAck (rxTake c r (dataFrm p ((t.acked + t.sent) % 8) 0)).1) = sayFrm ((t.acked + 1) % 8) false false 0 := by
    rw [e3]
    simp only [rxAck, h.rb, goWait, hnn]
    rfl
  have hfar : far t.acked ((t.acked + 1) % 8) = 1 := by unfold far; omega
  refine ⟨_, _, _, _, _, e1, e2, rfl, hI1, hf1.1, rfl, hf1.2, hok.1, ?_, ?_, hok.2.2⟩
  · have hTI := (txHear_ok (f := rxAck (rxTake c r (dataFrm p ((t.acked + t.sent) % 8) 0)).1) hI1 hL1 (by rw [hak]; simp only [sayFrm]; omega)).1
    have eH : txHear { t with flight := t.flight ++ [p], queue := q, next := numNext t.next, sent := t.sent + 1 } (rxAck (rxTake c r (dataFrm p ((t.acked + t.sent) % 8) 0)).1) = ⟨numNext t.next, (t.acked + 1) % 8, [], 0, q, false, t.tries, false, t.count + 1, false⟩ := by
      rw [hak, txHear_go (t := ⟨numNext t.next, t.acked, t.flight ++ [p], t.sent + 1, q, t.asks, t.tries, t.held, t.count, t.dead⟩) (f := sayFrm ((t.acked + 1) % 8) false false 0) h.td (by simp only [sayFrm, hfar, h.fl]; simp)]
      simp only [sayFrm, hfar, h.fl, hs0, h.ta, h.td]
      rfl
    rw [eH] at hTI ⊢
    refine ⟨hTI, hok.1, rfl, rfl, rfl, rfl, ?_, ?_, ?_, h.mtu, del ++ [p], by rw [h1]; simp, ?_, by simp only [List.length_append, List.length_singleton]; omega⟩
    · rw [e3]; exact h.rd
    · rw [e3]; exact h.rb
    · rw [e3]; simp only; rw [h.cnt]
    · have e : (pieces c.mps put).take (del.length + 1) = del ++ [p] := by rw [h1, List.take_append]; simp [List.take_of_length_le]
      rw [← e, j2, e3]
      by_cases h2p : (segPut r.join p).2.2 = 2
      · simp only [if_pos h2p]
      · simp only [if_neg h2p, List.append_nil]
  · rw [hak, txHear_go (t := ⟨numNext t.next, t.acked, t.flight ++ [p], t.sent + 1, q, t.asks, t.tries, t.held, t.count, t.dead⟩) (f := sayFrm ((t.acked + 1) % 8) false false 0) h.td (by simp only [sayFrm, hfar, h.fl]; simp)]
set_option maxRecDepth 100000
set_option maxHeartbeats 4000000
def ic17 : IC := (.seq (.reg [] (xt (.alc 24 [(.int .i64 0), (.int .i64 0), (.int .i64 0), (.int .i64 0), (.int .i64 0)]) 2 (xt (.mv (.const (.slice none 0 0))) 3 .done))) (.seq (.reg [] (xt (.mv (xr 0)) 8 (xt (.call 31 [xr 8]) 9 (xt (.call 30 [xr 9, (.const (.int .i64 140)), (.const (.int .i64 1)), (.const (.bool true)), (.const (.bool false))]) 10 (xt (.mv (xr 10)) 7 (xt (.ext (xr 7) 0) 11 (xt (.ext (xr 7) 1) 12 (xt (.ext (xr 7) 2) 13 (xt (.alc 24 [(.int .i64 0), (.int .i64 0), (.int .i64 0), (.int .i64 0), (.int .i64 0)]) 4 (xt (.alc 73 [(.int .i64 0), (.int .i64 0), (.int .i64 0), (.int .i64 0), (.int .i64 0), (.slice none 0 0), (.slice none 0 0), (.int .i64 0)]) 6 (.op .t (.sto (xr 4) (xr 11) 5) none none (xt (.mv (xr 12)) 5 (.op .t (.sto (xr 6) (xr 13) 8) none none .done))))))))))))) (.seq (.reg [] (xt (.ld (xr 4) 5 true) 14 (xt (.mv (xr 5)) 15 (.op .t (.sto (xr 2) (xr 14) 5) none none (xt (.mv (xr 15)) 3 .done))))) .ret)))
theorem ic17_ok : Tryz.f17.body.bind (trC Tryz.prog []) = some ic17 := by kernel_rfl
def fr17 : List FR := [(FR.c 2 5 true), (FR.t 3)]
theorem fr17_ok : fres Tryz.prog Tryz.f17.results.toList = some fr17 := by kernel_rfl
def ic4 : IC := (.seq (.reg [] (xt (.mv (.const (.bool false))) 2 .done)) (.seq (.seq (.reg [] (xt (.mv (xr 0)) 26 (xt (.len (xr 26)) 27 (xt (.bin .gtr (xr 27) (.const (.int .i64 1048576))) 28 .done)))) (.cond (xr 28) (.seq (.reg [] (xt (.mv (.const (.bool true))) 2 .done)) .ret) .skip)) (.seq (.reg [] (xt (.mv (xr 0)) 30 (xt (.call 17 [xr 30]) 31 (xt (.mv (xr 31)) 29 (xt (.ext (xr 29) 0) 32 (xt (.ext (xr 29) 1) 33 (xt (.alc 24 [(.int .i64 0), (.int .i64 0), (.int .i64 0), (.int .i64 0), (.int .i64 0)]) 3 (.op .t (.sto (xr 3) (xr 32) 5) none none (xt (.mv (xr 33)) 4 .done))))))))) (.seq (.reg [] (xt (.bld [(.int .i64 0), (.int .i64 0), (.slice none 0 0), (.int .i64 0), (.slice none 0 0), (.bool false), (.int .i64 0), (.bool false), (.int .i64 0), (.bool false)] []) 34 (xt (.alc 55 [(.int .i64 0), (.int .i64 0), (.slice none 0 0), (.int .i64 0), (.slice none 0 0), (.bool false), (.int .i64 0), (.bool false), (.int .i64 0), (.bool false)]) 5 (.op .t (.sto (xr 5) (xr 34) 10) none none .done)))) (.seq (.reg [] (xt (.bld [(.int .i64 0), (.int .i64 0), (.int .i64 0), (.slice none 0 0), (.bool false), (.bool false), (.bool false)] []) 35 (xt (.alc 57 [(.int .i64 0), (.int .i64 0), (.int .i64 0), (.slice none 0 0), (.bool false), (.bool false), (.bool false)]) 6 (.op .t (.sto (xr 6) (xr 35) 7) none none .done)))) (.seq (.reg [] (xt (.bsl 22 1 0 [(.slice none 0 0)] []) 36 (xt (.mv (xr 36)) 7 .done))) (.seq (.reg [] (xt (.bsl 22 1 0 [(.slice none 0 0)] []) 37 (xt (.mv (xr 37)) 8 .done))) (.seq (.seq (.reg [] (xt (.mv (.const (.int .i64 0))) 9 .done)) (.block 0 (.loop (.seq (.seq (.reg [] (xt (.mv (xr 9)) 38 (xt (.mv (xr 4)) 39 (xt (.len (xr 39)) 40 (xt (.bin .lss (xr 38) (xr 40)) 41 .done))))) (.cond (xr 41) .skip (.exit 0))) (.seq (.block 1 (.seq (.seq (.reg [] (xt (.mv (xr 4)) 44 (xt (.mv (xr 9)) 45 (xt (.iad (xr 44) (xr 45) 5) 46 (xt (.fad (xr 46) 0) 47 (xt (.ld (xr 47) 1 false) 48 (xt (.bin .neq (xr 48) (.const (.int .i64 1))) 49 .done))))))) (.cond (xr 49) (.exit 1) .skip)) (.seq (.join [] (xl (.ld (xr 3) 5 true) 51 (xl (.ld (xr 5) 10 true) 52 (xp (.mv (xr 4)) 53 (xp (.mv (xr 9)) 54 (xp (.iad (xr 53) (xr 54) 5) 55 (xp (.fad (xr 55) 4) 56 (xl (.ld (xr 56) 1 false) 57 (.alt (xm (.call 18 [xr 51, xr 52, xr 57]) 58 (xp (.mv (xr 58)) 50 (xp (.ext (xr 50) 0) 59 (xp (.ext (xr 50) 1) 60 (xm (.alc 55 [(.int .i64 0), (.int .i64 0), (.slice none 0 0), (.int .i64 0), (.slice none 0 0), (.bool false), (.int .i64 0), (.bool false), (.int .i64 0), (.bool false)]) 10 (.op .t (.sto (xr 10) (xr 59) 10) none none (xp (.mv (xr 60)) 11 .done))))))) (xm (.alc 55 [(.int .i64 0), (.int .i64 0), (.slice none 0 0), (.int .i64 0), (.slice none 0 0), (.bool false), (.int .i64 0), (.bool false), (.int .i64 0), (.bool false)]) 10 (xm (.call 18 [xr 51, xr 52, xr 57]) 58 (xp (.mv (xr 58)) 50 (xp (.ext (xr 50) 0) 59 (xp (.ext (xr 50) 1) 60 (.op .t (.sto (xr 10) (xr 59) 10) none none (xp (.mv (xr 60)) 11 .done)))))))))))))))) (.seq (.reg [] (xt (.ld (xr 10) 10 true) 61 (.op .t (.sto (xr 5) (xr 61) 10) none none .done))) (.seq (.seq (.reg [] (xt (.mv (xr 11)) 62 .done)) (.cond (xr 62) (.reg [] (xt (.mv (xr 7)) 63 (xt (.mv (xr 4)) 64 (xt (.mv (xr 9)) 65 (xt (.iad (xr 64) (xr 65) 5) 66 (xt (.fad (xr 66) 4) 67 (xt (.ld (xr 67) 1 false) 68 (xt (.bsl 22 1 1 [(.slice none 0 0)] [(0, (xr 68))]) 69 (xt (.app 35 (xr 63) (xr 69)) 70 (xt (.mv (xr 70)) 7 .done)))))))))) .skip)) (.seq (.reg [] (xt (.mv (.const (.int .i64 0))) 12 .done)) (.block 2 (.loop (.seq (.seq (.reg [] (xt (.mv (xr 12)) 71 (xt (.mv (xr 0)) 72 (xt (.len (xr 72)) 73 (xt (.bin .rem (xr 73) (.const (.int .i64 5))) 74 (xt (.bin .add (.const (.int .i64 1)) (xr 74)) 75 (xt (.bin .lss (xr 71) (xr 75)) 76 .done))))))) (.cond (xr 76) .skip (.exit 2))) (.seq (.block 3 (.seq (.reg [] (xt (.ld (xr 3) 5 true) 80 (xt (.ld (xr 5) 10 true) 81 (xt (.call 19 [xr 80, xr 81, (.const (.int .i64 0))]) 82 (xt (.mv (xr 82)) 79 (xt (.ext (xr 79) 0) 83 (xt (.ext (xr 79) 1) 84 (xt (.ext (xr 79) 2) 85 (xt (.alc 55 [(.int .i64 0), (.int .i64 0), (.slice none 0 0), (.int .i64 0), (.slice none 0 0), (.bool false), (.int .i64 0), (.bool false), (.int .i64 0), (.bool false)]) 13 (xt (.alc 41 [(.int .i64 0), (.int .i64 0), (.int .i64 0), (.bool false), (.bool false), (.int .i64 0), (.int .i64 0), (.int .i64 0), (.slice none 0 0)]) 14 (.op .t (.sto (xr 13) (xr 83) 10) none none (.op .t (.sto (xr 14) (xr 84) 9) none none (xt (.mv (xr 85)) 15 .done))))))))))))) (.seq (.reg [] (xt (.ld (xr 13) 10 true) 86 (.op .t (.sto (xr 5) (xr 86) 10) none none .done))) (.seq (.reg [] (xt (.mv (xr 15)) 87 .done)) (.cond (xr 87) (.seq (.reg [] (xt (.ld (xr 3) 5 true) 89 (xt (.ld (xr 6) 7 true) 90 (xt (.ld (xr 14) 9 true) 91 (xt (.call 20 [xr 89, xr 90, xr 91]) 92 (xt (.mv (xr 92)) 88 (xt (.ext (xr 88) 0) 93 (xt (.ext (xr 88) 1) 94 (xt (.ext (xr 88) 2) 95 (xt (.alc 57 [(.int .i64 0), (.int .i64 0), (.int .i64 0), (.slice none 0 0), (.bool false), (.bool false), (.bool false)]) 16 (.op .t (.sto (xr 16) (xr 93) 7) none none (xt (.mv (xr 94)) 17 (xt (.mv (xr 95)) 18 .done))))))))))))) (.seq (.reg [] (xt (.ld (xr 16) 7 true) 96 (.op .t (.sto (xr 6) (xr 96) 7) none none .done))) (.seq (.reg [] (xt (.mv (xr 8)) 97 (xt (.mv (xr 17)) 98 (xt (.app 35 (xr 97) (xr 98)) 99 (xt (.mv (xr 99)) 8 .done))))) (.reg [] (xl (.ld (xr 3) 5 true) 100 (xl (.ld (xr 5) 10 true) 101 (xl (.ld (xr 6) 7 true) 102 (xm (.call 22 [xr 102]) 103 (xm (.call 21 [xr 100, xr 101, xr 103]) 104 (.op .t (.sto (xr 5) (xr 104) 10) none none .done)))))))))) .skip))))) (.reg [] (xt (.mv (xr 12)) 77 (xt (.bin .add (xr 77) (.const (.int .i64 1))) 78 (xt (.mv (xr 78)) 12 .done)))))))))))))) (.reg [] (xt (.mv (xr 9)) 42 (xt (.bin .add (xr 42) (.const (.int .i64 1))) 43 (xt (.mv (xr 43)) 9 .done))))))))) (.seq (.seq (.reg [] (xt (.mv (.const (.int .i64 0))) 19 .done)) (.block 4 (.loop (.seq (.seq (.reg [] (xt (.mv (xr 19)) 105 (xt (.bin .lss (xr 105) (.const (.int .i64 200))) 106 (xt (.mv (xr 106)) 107 (.op .t (.ld (xr 5) 10 true) (some 108) (some (107, true)) (.op .t (.call 23 [xr 108]) (some 109) (some (107, true)) (.op .t (.bin .gtr (xr 109) (.const (.int .i64 0))) (some 110) (some (107, true)) (xt (.pick (xr 107) (xr 110) (.const (.bool false))) 111 .done)))))))) (.cond (xr 111) .skip (.exit 4))) (.seq (.block 5 (.seq (.reg [] (xt (.ld (xr 3) 5 true) 115 (xt (.ld (xr 5) 10 true) 116 (xt (.call 19 [xr 115, xr 116, (.const (.int .i64 0))]) 117 (xt (.mv (xr 117)) 114 (xt (.ext (xr 114) 0) 118 (xt (.ext (xr 114) 1) 119 (xt (.ext (xr 114) 2) 120 (xt (.alc 55 [(.int .i64 0), (.int .i64 0), (.slice none 0 0), (.int .i64 0), (.slice none 0 0), (.bool false), (.int .i64 0), (.bool false), (.int .i64 0), (.bool false)]) 20 (xt (.alc 41 [(.int .i64 0), (.int .i64 0), (.int .i64 0), (.bool false), (.bool false), (.int .i64 0), (.int .i64 0), (.int .i64 0), (.slice none 0 0)]) 21 (.op .t (.sto (xr 20) (xr 118) 10) none none (.op .t (.sto (xr 21) (xr 119) 9) none none (xt (.mv (xr 120)) 22 .done))))))))))))) (.seq (.reg [] (xt (.ld (xr 3) 5 true) 122 (xt (.ld (xr 6) 7 true) 123 (xt (.ld (xr 21) 9 true) 124 (xt (.call 20 [xr 122, xr 123, xr 124]) 125 (xt (.mv (xr 125)) 121 (xt (.ext (xr 121) 0) 126 (xt (.ext (xr 121) 1) 127 (xt (.ext (xr 121) 2) 128 (xt (.alc 57 [(.int .i64 0), (.int .i64 0), (.int .i64 0), (.slice none 0 0), (.bool false), (.bool false), (.bool false)]) 23 (.op .t (.sto (xr 23) (xr 126) 7) none none (xt (.mv (xr 127)) 24 (xt (.mv (xr 128)) 25 .done))))))))))))) (.seq (.reg [5] (xl (.ld (xr 3) 5 true) 129 (xl (.ld (xr 20) 10 true) 130 (xl (.ld (xr 23) 7 true) 131 (xm (.call 22 [xr 131]) 132 (xm (.call 21 [xr 129, xr 130, xr 132]) 133 (.op .m (.sto (xr 5) (xr 133) 10) none none .done))))))) (.seq (.reg [] (xt (.ld (xr 23) 7 true) 134 (.op .t (.sto (xr 6) (xr 134) 7) none none .done))) (.reg [] (xt (.mv (xr 8)) 135 (xt (.mv (xr 24)) 136 (xt (.app 35 (xr 135) (xr 136)) 137 (xt (.mv (xr 137)) 8 .done)))))))))) (.reg [] (xt (.mv (xr 19)) 112 (xt (.bin .add (xr 112) (.const (.int .i64 1))) 113 (xt (.mv (xr 113)) 19 .done))))))))) (.seq (.reg [] (xt (.ld (xr 3) 5 true) 138 (xt (.ld (xr 5) 10 true) 139 (xt (.call 24 [xr 138, xr 139]) 140 (xt (.mv (xr 140)) 141 (.op .t (.ld (xr 6) 7 true) (some 142) (some (141, true)) (.op .t (.call 25 [xr 142]) (some 143) (some (141, true)) (xt (.pick (xr 141) (xr 143) (.const (.bool false))) 144 (xt (.mv (xr 144)) 145 (.op .t (.mv (xr 8)) (some 146) (some (145, true)) (.op .t (.mv (xr 7)) (some 147) (some (145, true)) (.op .t (.call 15 [xr 146, xr 147]) (some 148) (some (145, true)) (xt (.pick (xr 145) (xr 148) (.const (.bool false))) 149 (xt (.mv (xr 149)) 150 (.op .t (.fad (xr 5) 8) (some 151) (some (150, true)) (.op .t (.ld (xr 151) 1 false) (some 152) (some (150, true)) (.op .t (.fad (xr 6) 1) (some 153) (some (150, true)) (.op .t (.ld (xr 153) 1 false) (some 154) (some (150, true)) (.op .t (.bin .eql (xr 152) (xr 154)) (some 155) (some (150, true)) (xt (.pick (xr 150) (xr 155) (.const (.bool false))) 156 (xt (.mv (xr 156)) 157 (.op .t (.call 16 []) (some 158) (some (157, true)) (xt (.pick (xr 157) (xr 158) (.const (.bool false))) 159 (xt (.mv (xr 159)) 2 .done)))))))))))))))))))))))) .ret))))))))))
theorem ic4_ok : Tryz.f4.body.bind (trC Tryz.prog []) = some ic4 := by kernel_rfl
def fr4 : List FR := [(FR.t 2)]
theorem fr4_ok : fres Tryz.prog Tryz.f4.results.toList = some fr4 := by kernel_rfl
end Go.Proofs.YtpjaidjnamngaaaGreat
