/- One hears a frame, for credits, by the reference. · What happens to the first message, for credits, by the reference. · What happens, for credits, by the reference. -/
import Derived.Test.YtpjaidjnamngaaaGreatM18
namespace Go.Proofs.YtpjaidjnamngaaaGreat
set_option linter.unusedVariables false
set_option linter.unusedSimpArgs false
open Go.RowKit
set_option maxRecDepth 100000
set_option maxHeartbeats 1000000
theorem crdTakeG_ok {c : Cfg} {t : CTx} {n : Int} (h : CTxI c t) (hn : 1 ≤ n ∧ n ≤ 255) : crdTakeG c t n = crdTake t n := by unfold crdTakeG; rw [if_pos ⟨ctxOk_iff.2 h, hn⟩]
theorem frm4 {f : Frm} (h : frmOk f = true) (hk : f.kind = 4) : 1 ≤ f.len ∧ f.len ≤ 255 := by
  unfold frmOk at h
  rw [if_neg (by omega), if_neg (by omega), if_neg (by omega), if_pos hk] at h
  simp only [Bool.and_eq_true, inB_iff] at h
  exact h.1.2
/-- One hears a frame for credits. -/
def hearC (c : Cfg) (x : End) (f : Frm) : End := if f.kind = 4 then { x with ctx := crdTake x.ctx f.len } else if f.kind = 3 then { x with crx := (crdHear c x.crx f).1, got := tell x.got (crdHear c x.crx f).2 } else x
theorem l9frame_c0 (c : Cfg) (link : Int) (e0 e1 : End) (n0 n1 : List Msg) (m : WM) (f : Frm) (x : Value) (z : Zc) (hR : WldR z e0 e1 n0 n1 m) (hI : EndI c e0) (hm : c.mode = 2) (hf : frmOk f = true) (hx : By z f.data x) :
    Spec Tryz.prog 121 [wldV c link m, .int .i64 0, vFrm f x] z (wldA e0 e1 n0 n1 m) (WldH c ⟨c, [e0, e1].set 0 (hearC c e0 f), [n0, n1], link⟩) := by
  obtain ⟨Ax, kx, rfl, hkx, hBx, hrx⟩ := hx.form
  have hfb := frmOk_bound hf
  have hp8 := hI.ctx.small
  have hq24 := hI.ctx.queue
  have hj23 := hI.crx.2.le
  have hjl : -1000000000 ≤ e0.crx.join.len := by have := hI.crx.2; rcases this with h | h <;> omega
  obtain ⟨kind, seq, ack, poll, fin, say, seg, len, data⟩ := f
  dsimp only at *
  (refine spec_enterL [10, 11, 20, 21, 22, 23, 30, 31, 32, 33, 40, 41, 50, 51] Tryz.func121 ic121_ok fr121_ok Tryz.ntmps121 rfl ?_; simp only [seval, go_sem, ic121, fr121, zipL])
  refine vsI.atR 10 rfl fun hE => ?_
  have hE := hE (by omega)
  ((try simp only [seval, go_sem]); repeat ((first | with_reducible refine vsI.id ?_ | with_reducible refine vcI_cond ?_); (try simp only [seval, go_sem])))
  (with_reducible refine condI.split (fun hg => ?_) (fun hg => ?_) <;> (try simp only [hg]) <;> (try simp only [seval, go_sem]))
  · exfalso
    simp [hm] at hg
  · ((try simp only [seval, go_sem]); repeat ((first | with_reducible refine vsI.id ?_ | with_reducible refine vcI_cond ?_); (try simp only [seval, go_sem])))
    ((first | refine ⟨⟨by omega, hE⟩, ?_⟩ | refine ⟨hE, ?_⟩); (try simp only [seval, go_sem]))
    (refine ldF.agg (sz := 28) _ rfl (by exact .inr ⟨10, _, _, _, _, _, rfl, fun i u hu => ends_get0 hu⟩) ?_; simp only [seval, go_sem, endC]; ((try simp only [seval, go_sem]); repeat ((first | with_reducible refine vsI.id ?_ | with_reducible refine vcI_cond ?_); (try simp only [seval, go_sem]))))
    (with_reducible refine condI.split (fun hg => ?_) (fun hg => ?_) <;> (try simp only [hg]) <;> (try simp only [seval, go_sem]))
    · have h4 : kind = 4 := by simpa using hg
      ((try simp only [seval, go_sem]); repeat ((first | with_reducible refine vsI.id ?_ | with_reducible refine vcI_cond ?_); (try simp only [seval, go_sem])))
      have hc := crdtake_s c e0.ctx len _ z hR.e0.cq (by omega) (fun p hp => by have := hp8 p hp; omega)
      simp only [crdTakeG_ok hI.ctx (frm4 hf h4)] at hc
      (try with_reducible refine callM.toT ?_); refine callP (hc) rfl rfl ?_; rintro u z1 hz1 ⟨_, rfl, A3, k3, cs3, rfl, hk3, he3, hr3⟩; (try simp only [seval, go_sem]); ((try simp only [seval, go_sem]); repeat ((first | with_reducible refine vsI.id ?_ | with_reducible refine vcI_cond ?_); (try simp only [seval, go_sem])))
      have hR1 : WldR z1 e0 e1 n0 n1 m := ⟨hR.e0.mono hz1, hR.e1.mono hz1, hR.n0, hR.n1⟩
      ((first | refine ⟨⟨by omega, hE⟩, ?_⟩ | refine ⟨hE, ?_⟩); (try simp only [seval, go_sem]))
      (refine stoV_row 10 rfl rfl rfl rfl rfl rfl rfl (by rw [endsC_len]; simp) ?_; simp only [seval, go_sem, ends_ctx0]; ((try simp only [seval, go_sem]); repeat ((first | with_reducible refine vsI.id ?_ | with_reducible refine vcI_cond ?_); (try simp only [seval, go_sem]))))
      (with_reducible refine condI.split (fun hg => ?_) (fun hg => ?_) <;> (try simp only [hg]) <;> (try simp only [seval, go_sem]))
      · exfalso
        simp [h4] at hg
      · ((try simp only [seval, go_sem]); repeat ((first | with_reducible refine vsI.id ?_ | with_reducible refine vcI_cond ?_); (try simp only [seval, go_sem])))
        (refine FinV.tf (Tf.pack 999 [10, 11, 20, 21, 22, 23, 30, 31, 32, 33, 40, 41, 50, 51] (by simp only [popL, look, del, Nat.reduceEqDiff, reduceCtorEq, if_true, if_false, reduceIte, Nat.succ_ne_self]; exact rfl) (by simp only [look, Nat.reduceEqDiff, reduceCtorEq, if_true, if_false, reduceIte])) ?_); dsimp only
        (((try simp only [seval, go_sem]); repeat ((first | with_reducible refine vsI.id ?_ | with_reducible refine vcI_cond ?_); (try simp only [seval, go_sem]))); refine FinV.own 999 rfl ?_; simp only [finE, finS, gt, look, SV.toV, SC.toV, allV, tupV, List.map_cons, List.map_nil, List.length_cons, List.length_nil, Nat.reduceAdd, Nat.reduceEqDiff, reduceCtorEq, if_true, if_false, reduceIte, Nat.succ_ne_self, true_and, List.getElem?_cons_zero, Nat.zero_add, Nat.add_zero])
        rw [show hearC c e0 ⟨kind, seq, ack, poll, fin, say, seg, len, data⟩ = { e0 with ctx := crdTake e0.ctx len } by unfold hearC; rw [if_pos h4]]
        exact ⟨_, e1, n0, n1, { m with m0 := { m.m0 with cA := A3, cC := k3 } }, rfl, rfl, rfl, rfl, rfl, ⟨{ hR1.e0 with cq := ⟨_, _, _, rfl, hk3, he3, hr3⟩ }, hR1.e1, hR.n0, hR.n1⟩⟩
    · have h4 : kind ≠ 4 := by simpa using hg
      ((try simp only [seval, go_sem]); repeat ((first | with_reducible refine vsI.id ?_ | with_reducible refine vcI_cond ?_); (try simp only [seval, go_sem])))
      (with_reducible refine condI.split (fun hg => ?_) (fun hg => ?_) <;> (try simp only [hg]) <;> (try simp only [seval, go_sem]))
      · have h3k : kind = 3 := by simpa using hg
        ((try simp only [seval, go_sem]); repeat ((first | with_reducible refine vsI.id ?_ | with_reducible refine vcI_cond ?_); (try simp only [seval, go_sem])))
        have hc := crdhear_s c e0.crx ⟨kind, seq, ack, poll, fin, say, seg, len, data⟩ _ _ z hR.e0.kj hx (by omega) hjl (by show data.length ≤ _; omega)
        simp only [crdHearG_ok (c := c) (r := e0.crx) (f := ⟨kind, seq, ack, poll, fin, say, seg, len, data⟩) ⟨cfgOk_iff.2 hI.ctx.cfg, crxOk_iff.2 hI.crx, h3k, hf⟩] at hc
        (try with_reducible refine callM.toT ?_); refine callP (hc) rfl rfl ?_; rintro u z1 hz1 ⟨_, _, rfl, ⟨A3, k3, cs3, rfl, hk3, he3, hr3⟩, A4, k4, cs4, rfl, hk4, he4, hr4⟩; (try simp only [seval, go_sem]); ((try simp only [seval, go_sem]); repeat ((first | with_reducible refine vsI.id ?_ | with_reducible refine vcI_cond ?_); (try simp only [seval, go_sem])))
        have hho := crdHear_ok (c := c) (f := ⟨kind, seq, ack, poll, fin, say, seg, len, data⟩) hI.crx (frm3 hf h3k)
        have h3 : By z1 (crdHear c e0.crx ⟨kind, seq, ack, poll, fin, say, seg, len, data⟩).1.join.got (.slice A3 (crdHear c e0.crx ⟨kind, seq, ack, poll, fin, say, seg, len, data⟩).1.join.got.length k3) := ⟨_, _, _, rfl, hk3, he3, hr3⟩
        have hR1 : WldR z1 e0 e1 n0 n1 m := ⟨hR.e0.mono hz1, hR.e1.mono hz1, hR.n0, hR.n1⟩
        ((first | refine ⟨⟨by omega, hE⟩, ?_⟩ | refine ⟨hE, ?_⟩); (try simp only [seval, go_sem]))
        (refine stoV_row 10 rfl rfl rfl rfl rfl rfl rfl (by rw [endsC_len]; simp) ?_; simp only [seval, go_sem, ends_crx0]; ((try simp only [seval, go_sem]); repeat ((first | with_reducible refine vsI.id ?_ | with_reducible refine vcI_cond ?_); (try simp only [seval, go_sem]))))
        have hR2 : WldR z1 { e0 with crx := (crdHear c e0.crx ⟨kind, seq, ack, poll, fin, say, seg, len, data⟩).1 } e1 n0 n1 { m with m0 := { m.m0 with kA := A3, kC := k3 } } := ⟨{ hR1.e0 with kj := h3 }, hR1.e1, hR.n0, hR.n1⟩
        (refine callT.tf (Tf.pack 999 [10, 11, 20, 21, 22, 23, 30, 31, 32, 33, 40, 41, 50, 51] (by simp only [popL, look, del, Nat.reduceEqDiff, reduceCtorEq, if_true, if_false, reduceIte, Nat.succ_ne_self]; exact rfl) (by simp only [look, Nat.reduceEqDiff, reduceCtorEq, if_true, if_false, reduceIte])) ?_); dsimp only
        (try with_reducible refine callM.toT ?_); refine callW 999 (l9tell0 c link { e0 with crx := (crdHear c e0.crx ⟨kind, seq, ack, poll, fin, say, seg, len, data⟩).1 } e1 n0 n1 { m with m0 := { m.m0 with kA := A3, kC := k3 } } (crdHear c e0.crx ⟨kind, seq, ack, poll, fin, say, seg, len, data⟩).2 (.slice A4 (crdHear c e0.crx ⟨kind, seq, ack, poll, fin, say, seg, len, data⟩).2.length k4) z1 hR2 ⟨A4, k4, cs4, rfl, hk4, he4, hr4⟩ (by have := hho.2.2; omega) hI.got.1) rfl rfl rfl rfl ?_; rintro v z2 A' hz2 ⟨f0, f1, g0, g1, m', hw1, hw2, hw3, rfl, rfl, hR3⟩; (try simp only [seval, go_sem]); ((try simp only [seval, go_sem]); repeat ((first | with_reducible refine vsI.id ?_ | with_reducible refine vcI_cond ?_); (try simp only [seval, go_sem])))
        (((try simp only [seval, go_sem]); repeat ((first | with_reducible refine vsI.id ?_ | with_reducible refine vcI_cond ?_); (try simp only [seval, go_sem]))); refine FinV.own 999 rfl ?_; simp only [finE, finS, gt, look, SV.toV, SC.toV, allV, tupV, List.map_cons, List.map_nil, List.length_cons, List.length_nil, Nat.reduceAdd, Nat.reduceEqDiff, reduceCtorEq, if_true, if_false, reduceIte, Nat.succ_ne_self, true_and, List.getElem?_cons_zero, Nat.zero_add, Nat.add_zero])
        rw [show hearC c e0 ⟨kind, seq, ack, poll, fin, say, seg, len, data⟩ = { e0 with crx := (crdHear c e0.crx ⟨kind, seq, ack, poll, fin, say, seg, len, data⟩).1, got := tell e0.got (crdHear c e0.crx ⟨kind, seq, ack, poll, fin, say, seg, len, data⟩).2 } by unfold hearC; rw [if_neg h4, if_pos h3k]]
        exact ⟨f0, f1, g0, g1, m', hw1, hw2, hw3, rfl, rfl, hR3⟩
      · have h3k : kind ≠ 3 := by simpa using hg
        ((try simp only [seval, go_sem]); repeat ((first | with_reducible refine vsI.id ?_ | with_reducible refine vcI_cond ?_); (try simp only [seval, go_sem])))
        (refine FinV.tf (Tf.pack 999 [10, 11, 20, 21, 22, 23, 30, 31, 32, 33, 40, 41, 50, 51] (by simp only [popL, look, del, Nat.reduceEqDiff, reduceCtorEq, if_true, if_false, reduceIte, Nat.succ_ne_self]; exact rfl) (by simp only [look, Nat.reduceEqDiff, reduceCtorEq, if_true, if_false, reduceIte])) ?_); dsimp only
        (((try simp only [seval, go_sem]); repeat ((first | with_reducible refine vsI.id ?_ | with_reducible refine vcI_cond ?_); (try simp only [seval, go_sem]))); refine FinV.own 999 rfl ?_; simp only [finE, finS, gt, look, SV.toV, SC.toV, allV, tupV, List.map_cons, List.map_nil, List.length_cons, List.length_nil, Nat.reduceAdd, Nat.reduceEqDiff, reduceCtorEq, if_true, if_false, reduceIte, Nat.succ_ne_self, true_and, List.getElem?_cons_zero, Nat.zero_add, Nat.add_zero])
        rw [show hearC c e0 ⟨kind, seq, ack, poll, fin, say, seg, len, data⟩ = e0 by unfold hearC; rw [if_neg h4, if_neg h3k]]
        exact ⟨e0, e1, n0, n1, m, rfl, rfl, rfl, rfl, rfl, hR⟩
theorem l9frame_c1 (c : Cfg) (link : Int) (e0 e1 : End) (n0 n1 : List Msg) (m : WM) (f : Frm) (x : Value) (z : Zc) (hR : WldR z e0 e1 n0 n1 m) (hI : EndI c e1) (hm : c.mode = 2) (hf : frmOk f = true) (hx : By z f.data x) :
    Spec Tryz.prog 121 [wldV c link m, .int .i64 1, vFrm f x] z (wldA e0 e1 n0 n1 m) (WldH c ⟨c, [e0, e1].set 1 (hearC c e1 f), [n0, n1], link⟩) := by
  obtain ⟨Ax, kx, rfl, hkx, hBx, hrx⟩ := hx.form
  have hfb := frmOk_bound hf
  have hp8 := hI.ctx.small
  have hq24 := hI.ctx.queue
  have hj23 := hI.crx.2.le
  have hjl : -1000000000 ≤ e1.crx.join.len := by have := hI.crx.2; rcases this with h | h <;> omega
  obtain ⟨kind, seq, ack, poll, fin, say, seg, len, data⟩ := f
  dsimp only at *
  (refine spec_enterL [10, 11, 20, 21, 22, 23, 30, 31, 32, 33, 40, 41, 50, 51] Tryz.func121 ic121_ok fr121_ok Tryz.ntmps121 rfl ?_; simp only [seval, go_sem, ic121, fr121, zipL])
  refine vsI.atR 10 rfl fun hE => ?_
  have hE := hE (by omega)
  ((try simp only [seval, go_sem]); repeat ((first | with_reducible refine vsI.id ?_ | with_reducible refine vcI_cond ?_); (try simp only [seval, go_sem])))
  (with_reducible refine condI.split (fun hg => ?_) (fun hg => ?_) <;> (try simp only [hg]) <;> (try simp only [seval, go_sem]))
  · exfalso
    simp [hm] at hg
  · ((try simp only [seval, go_sem]); repeat ((first | with_reducible refine vsI.id ?_ | with_reducible refine vcI_cond ?_); (try simp only [seval, go_sem])))
    ((first | refine ⟨⟨by omega, hE⟩, ?_⟩ | refine ⟨hE, ?_⟩); (try simp only [seval, go_sem]))
    (refine ldF.agg (sz := 28) _ rfl (by exact .inr ⟨10, _, _, _, _, _, rfl, fun i u hu => ends_get1 hu⟩) ?_; simp only [seval, go_sem, endC]; ((try simp only [seval, go_sem]); repeat ((first | with_reducible refine vsI.id ?_ | with_reducible refine vcI_cond ?_); (try simp only [seval, go_sem]))))
    (with_reducible refine condI.split (fun hg => ?_) (fun hg => ?_) <;> (try simp only [hg]) <;> (try simp only [seval, go_sem]))
    · have h4 : kind = 4 := by simpa using hg
      ((try simp only [seval, go_sem]); repeat ((first | with_reducible refine vsI.id ?_ | with_reducible refine vcI_cond ?_); (try simp only [seval, go_sem])))
      have hc := crdtake_s c e1.ctx len _ z hR.e1.cq (by omega) (fun p hp => by have := hp8 p hp; omega)
      simp only [crdTakeG_ok hI.ctx (frm4 hf h4)] at hc
      (try with_reducible refine callM.toT ?_); refine callP (hc) rfl rfl ?_; rintro u z1 hz1 ⟨_, rfl, A3, k3, cs3, rfl, hk3, he3, hr3⟩; (try simp only [seval, go_sem]); ((try simp only [seval, go_sem]); repeat ((first | with_reducible refine vsI.id ?_ | with_reducible refine vcI_cond ?_); (try simp only [seval, go_sem])))
      have hR1 : WldR z1 e0 e1 n0 n1 m := ⟨hR.e0.mono hz1, hR.e1.mono hz1, hR.n0, hR.n1⟩
      ((first | refine ⟨⟨by omega, hE⟩, ?_⟩ | refine ⟨hE, ?_⟩); (try simp only [seval, go_sem]))
      (refine stoV_row 10 rfl rfl rfl rfl rfl rfl rfl (by rw [endsC_len]; simp) ?_; simp only [seval, go_sem, ends_ctx1]; ((try simp only [seval, go_sem]); repeat ((first | with_reducible refine vsI.id ?_ | with_reducible refine vcI_cond ?_); (try simp only [seval, go_sem]))))
      (with_reducible refine condI.split (fun hg => ?_) (fun hg => ?_) <;> (try simp only [hg]) <;> (try simp only [seval, go_sem]))
      · exfalso
        simp [h4] at hg
      · ((try simp only [seval, go_sem]); repeat ((first | with_reducible refine vsI.id ?_ | with_reducible refine vcI_cond ?_); (try simp only [seval, go_sem])))
        (refine FinV.tf (Tf.pack 999 [10, 11, 20, 21, 22, 23, 30, 31, 32, 33, 40, 41, 50, 51] (by simp only [popL, look, del, Nat.reduceEqDiff, reduceCtorEq, if_true, if_false, reduceIte, Nat.succ_ne_self]; exact rfl) (by simp only [look, Nat.reduceEqDiff, reduceCtorEq, if_true, if_false, reduceIte])) ?_); dsimp only
        (((try simp only [seval, go_sem]); repeat ((first | with_reducible refine vsI.id ?_ | with_reducible refine vcI_cond ?_); (try simp only [seval, go_sem]))); refine FinV.own 999 rfl ?_; simp only [finE, finS, gt, look, SV.toV, SC.toV, allV, tupV, List.map_cons, List.map_nil, List.length_cons, List.length_nil, Nat.reduceAdd, Nat.reduceEqDiff, reduceCtorEq, if_true, if_false, reduceIte, Nat.succ_ne_self, true_and, List.getElem?_cons_zero, Nat.zero_add, Nat.add_zero])
        rw [show hearC c e1 ⟨kind, seq, ack, poll, fin, say, seg, len, data⟩ = { e1 with ctx := crdTake e1.ctx len } by unfold hearC; rw [if_pos h4]]
        exact ⟨e0, _, n0, n1, { m with m1 := { m.m1 with cA := A3, cC := k3 } }, rfl, rfl, rfl, rfl, rfl, ⟨hR1.e0, { hR1.e1 with cq := ⟨_, _, _, rfl, hk3, he3, hr3⟩ }, hR.n0, hR.n1⟩⟩
    · have h4 : kind ≠ 4 := by simpa using hg
      ((try simp only [seval, go_sem]); repeat ((first | with_reducible refine vsI.id ?_ | with_reducible refine vcI_cond ?_); (try simp only [seval, go_sem])))
      (with_reducible refine condI.split (fun hg => ?_) (fun hg => ?_) <;> (try simp only [hg]) <;> (try simp only [seval, go_sem]))
      · have h3k : kind = 3 := by simpa using hg
        ((try simp only [seval, go_sem]); repeat ((first | with_reducible refine vsI.id ?_ | with_reducible refine vcI_cond ?_); (try simp only [seval, go_sem])))
        have hc := crdhear_s c e1.crx ⟨kind, seq, ack, poll, fin, say, seg, len, data⟩ _ _ z hR.e1.kj hx (by omega) hjl (by show data.length ≤ _; omega)
        simp only [crdHearG_ok (c := c) (r := e1.crx) (f := ⟨kind, seq, ack, poll, fin, say, seg, len, data⟩) ⟨cfgOk_iff.2 hI.ctx.cfg, crxOk_iff.2 hI.crx, h3k, hf⟩] at hc
        (try with_reducible refine callM.toT ?_); refine callP (hc) rfl rfl ?_; rintro u z1 hz1 ⟨_, _, rfl, ⟨A3, k3, cs3, rfl, hk3, he3, hr3⟩, A4, k4, cs4, rfl, hk4, he4, hr4⟩; (try simp only [seval, go_sem]); ((try simp only [seval, go_sem]); repeat ((first | with_reducible refine vsI.id ?_ | with_reducible refine vcI_cond ?_); (try simp only [seval, go_sem])))
        have hho := crdHear_ok (c := c) (f := ⟨kind, seq, ack, poll, fin, say, seg, len, data⟩) hI.crx (frm3 hf h3k)
        have h3 : By z1 (crdHear c e1.crx ⟨kind, seq, ack, poll, fin, say, seg, len, data⟩).1.join.got (.slice A3 (crdHear c e1.crx ⟨kind, seq, ack, poll, fin, say, seg, len, data⟩).1.join.got.length k3) := ⟨_, _, _, rfl, hk3, he3, hr3⟩
        have hR1 : WldR z1 e0 e1 n0 n1 m := ⟨hR.e0.mono hz1, hR.e1.mono hz1, hR.n0, hR.n1⟩
        ((first | refine ⟨⟨by omega, hE⟩, ?_⟩ | refine ⟨hE, ?_⟩); (try simp only [seval, go_sem]))
        (refine stoV_row 10 rfl rfl rfl rfl rfl rfl rfl (by rw [endsC_len]; simp) ?_; simp only [seval, go_sem, ends_crx1]; ((try simp only [seval, go_sem]); repeat ((first | with_reducible refine vsI.id ?_ | with_reducible refine vcI_cond ?_); (try simp only [seval, go_sem]))))
        have hR2 : WldR z1 e0 { e1 with crx := (crdHear c e1.crx ⟨kind, seq, ack, poll, fin, say, seg, len, data⟩).1 } n0 n1 { m with m1 := { m.m1 with kA := A3, kC := k3 } } := ⟨hR1.e0, { hR1.e1 with kj := h3 }, hR.n0, hR.n1⟩
        (refine callT.tf (Tf.pack 999 [10, 11, 20, 21, 22, 23, 30, 31, 32, 33, 40, 41, 50, 51] (by simp only [popL, look, del, Nat.reduceEqDiff, reduceCtorEq, if_true, if_false, reduceIte, Nat.succ_ne_self]; exact rfl) (by simp only [look, Nat.reduceEqDiff, reduceCtorEq, if_true, if_false, reduceIte])) ?_); dsimp only
        (try with_reducible refine callM.toT ?_); refine callW 999 (l9tell1 c link e0 { e1 with crx := (crdHear c e1.crx ⟨kind, seq, ack, poll, fin, say, seg, len, data⟩).1 } n0 n1 { m with m1 := { m.m1 with kA := A3, kC := k3 } } (crdHear c e1.crx ⟨kind, seq, ack, poll, fin, say, seg, len, data⟩).2 (.slice A4 (crdHear c e1.crx ⟨kind, seq, ack, poll, fin, say, seg, len, data⟩).2.length k4) z1 hR2 ⟨A4, k4, cs4, rfl, hk4, he4, hr4⟩ (by have := hho.2.2; omega) hI.got.1) rfl rfl rfl rfl ?_; rintro v z2 A' hz2 ⟨f0, f1, g0, g1, m', hw1, hw2, hw3, rfl, rfl, hR3⟩; (try simp only [seval, go_sem]); ((try simp only [seval, go_sem]); repeat ((first | with_reducible refine vsI.id ?_ | with_reducible refine vcI_cond ?_); (try simp only [seval, go_sem])))
        (((try simp only [seval, go_sem]); repeat ((first | with_reducible refine vsI.id ?_ | with_reducible refine vcI_cond ?_); (try simp only [seval, go_sem]))); refine FinV.own 999 rfl ?_; simp only [finE, finS, gt, look, SV.toV, SC.toV, allV, tupV, List.map_cons, List.map_nil, List.length_cons, List.length_nil, Nat.reduceAdd, Nat.reduceEqDiff, reduceCtorEq, if_true, if_false, reduceIte, Nat.succ_ne_self, true_and, List.getElem?_cons_zero, Nat.zero_add, Nat.add_zero])
        rw [show hearC c e1 ⟨kind, seq, ack, poll, fin, say, seg, len, data⟩ = { e1 with crx := (crdHear c e1.crx ⟨kind, seq, ack, poll, fin, say, seg, len, data⟩).1, got := tell e1.got (crdHear c e1.crx ⟨kind, seq, ack, poll, fin, say, seg, len, data⟩).2 } by unfold hearC; rw [if_neg h4, if_pos h3k]]
        exact ⟨f0, f1, g0, g1, m', hw1, hw2, hw3, rfl, rfl, hR3⟩
      · have h3k : kind ≠ 3 := by simpa using hg
        ((try simp only [seval, go_sem]); repeat ((first | with_reducible refine vsI.id ?_ | with_reducible refine vcI_cond ?_); (try simp only [seval, go_sem])))
        (refine FinV.tf (Tf.pack 999 [10, 11, 20, 21, 22, 23, 30, 31, 32, 33, 40, 41, 50, 51] (by simp only [popL, look, del, Nat.reduceEqDiff, reduceCtorEq, if_true, if_false, reduceIte, Nat.succ_ne_self]; exact rfl) (by simp only [look, Nat.reduceEqDiff, reduceCtorEq, if_true, if_false, reduceIte])) ?_); dsimp only
        (((try simp only [seval, go_sem]); repeat ((first | with_reducible refine vsI.id ?_ | with_reducible refine vcI_cond ?_); (try simp only [seval, go_sem]))); refine FinV.own 999 rfl ?_; simp only [finE, finS, gt, look, SV.toV, SC.toV, allV, tupV, List.map_cons, List.map_nil, List.length_cons, List.length_nil, Nat.reduceAdd, Nat.reduceEqDiff, reduceCtorEq, if_true, if_false, reduceIte, Nat.succ_ne_self, true_and, List.getElem?_cons_zero, Nat.zero_add, Nat.add_zero])
        rw [show hearC c e1 ⟨kind, seq, ack, poll, fin, say, seg, len, data⟩ = e1 by unfold hearC; rw [if_neg h4, if_neg h3k]]
        exact ⟨e0, e1, n0, n1, m, rfl, rfl, rfl, rfl, rfl, hR⟩
end Go.Proofs.YtpjaidjnamngaaaGreat
namespace Go.Proofs.YtpjaidjnamngaaaGreat
set_option linter.unusedVariables false
set_option linter.unusedSimpArgs false
open Go.RowKit
set_option maxRecDepth 100000
set_option maxHeartbeats 1000000
/-- One end behind its first message, for credits. -/
def hear1C (c : Cfg) (x : End) (l : List Msg) : End := match l with
  | [] => x
  | m :: _ => match frmRead m.bytes with
    | none => x
    | some f => hearC c x f
theorem l9net_c0 (c : Cfg) (link : Int) (e0 e1 : End) (n0 n1 : List Msg) (m : WM) (ev : Evt) (v : Value) (z : Zc) (hv : By z ev.data v) (hR : WldR z e0 e1 n0 n1 m) (hI : EndI c e0) (hN : NetI n0) (hm : c.mode = 2) (hw : ev.who = 0) (hk : ev.kind = 7 ∨ ev.kind = 8) :
    Spec Tryz.prog 90 [wldV c link m, vEvt ev v] z (wldA e0 e1 n0 n1 m) (WldH c ⟨c, [e0, e1].set 0 (if ev.kind = 7 then hear1C c e0 n0 else e0), [n0, n1].set 0 (n0.drop 1), link⟩) := by
  obtain ⟨kind, who, at_, vv, data⟩ := ev
  dsimp only at *
  subst hw
  obtain ⟨Av, kv, rfl, hkv, hBv, hrv⟩ := hv.form
  (refine spec_enterL [10, 11, 20, 21, 22, 23, 30, 31, 32, 33, 40, 41, 50, 51] Tryz.func90 ic90_ok fr90_ok Tryz.ntmps90 rfl ?_; simp only [seval, go_sem, ic90, fr90, zipL])
  refine vsI.atR 11 rfl fun hA => ?_
  have hA := hA (by omega)
  ((try simp only [seval, go_sem]); repeat ((first | with_reducible refine vsI.id ?_ | with_reducible refine vcI_cond ?_); (try simp only [seval, go_sem])))
  ((first | refine ⟨⟨by omega, hA⟩, ?_⟩ | refine ⟨hA, ?_⟩); (try simp only [seval, go_sem]))
  (refine ldF.one _ (RdS.cell 11 rfl rfl) ?_; simp only [seval, go_sem]; ((try simp only [seval, go_sem]); repeat ((first | with_reducible refine vsI.id ?_ | with_reducible refine vcI_cond ?_); (try simp only [seval, go_sem]))))
  (with_reducible refine condI.split (fun hg => ?_) (fun hg => ?_) <;> (try simp only [hg]) <;> (try simp only [seval, go_sem]))
  · have h0 : n0 = [] := List.eq_nil_of_length_eq_zero (by simp at hg; simp [hg])
    ((try simp only [seval, go_sem]); repeat ((first | with_reducible refine vsI.id ?_ | with_reducible refine vcI_cond ?_); (try simp only [seval, go_sem])))
    (refine FinV.tf (Tf.pack 999 [10, 11, 20, 21, 22, 23, 30, 31, 32, 33, 40, 41, 50, 51] (by simp only [popL, look, del, Nat.reduceEqDiff, reduceCtorEq, if_true, if_false, reduceIte, Nat.succ_ne_self]; exact rfl) (by simp only [look, Nat.reduceEqDiff, reduceCtorEq, if_true, if_false, reduceIte])) ?_); dsimp only
    (((try simp only [seval, go_sem]); repeat ((first | with_reducible refine vsI.id ?_ | with_reducible refine vcI_cond ?_); (try simp only [seval, go_sem]))); refine FinV.own 999 rfl ?_; simp only [finE, finS, gt, look, SV.toV, SC.toV, allV, tupV, List.map_cons, List.map_nil, List.length_cons, List.length_nil, Nat.reduceAdd, Nat.reduceEqDiff, reduceCtorEq, if_true, if_false, reduceIte, Nat.succ_ne_self, true_and, List.getElem?_cons_zero, Nat.zero_add, Nat.add_zero])
    subst h0
    exact ⟨e0, e1, [], n1, m, rfl, by simp [hear1C], rfl, rfl, rfl, hR⟩
  · obtain ⟨msg, rest, hne⟩ : ∃ msg rest, n0 = msg :: rest := by
      cases hx : n0 with
      | nil => rw [hx] at hg; simp at hg
      | cons a b => exact ⟨a, b, rfl⟩
    have h15 : msg.bytes.length ≤ 15 := hN.2 msg (by rw [hne]; simp)
    have hn30 := hN.1
    rcases hk with rfl | rfl
    · simp only [seval, go_sem]
      ((try simp only [seval, go_sem]); repeat ((first | with_reducible refine vsI.id ?_ | with_reducible refine vcI_cond ?_); (try simp only [seval, go_sem])))
      (refine callT.tf (Tf.pack 999 [10, 11, 20, 21, 22, 23, 30, 31, 32, 33, 40, 41, 50, 51] (by simp only [popL, look, del, Nat.reduceEqDiff, reduceCtorEq, if_true, if_false, reduceIte, Nat.succ_ne_self]; exact rfl) (by simp only [look, Nat.reduceEqDiff, reduceCtorEq, if_true, if_false, reduceIte])) ?_); dsimp only
      (try with_reducible refine callM.toT ?_); refine callW 999 (l9first0 c link e0 e1 n0 n1 msg rest m z hR hne (by omega)) rfl rfl rfl rfl ?_; rintro u z1 A' hz1 ⟨m1, A1, k1, rfl, rfl, hR1, hb1⟩; (try simp only [seval, go_sem]); ((try simp only [seval, go_sem]); repeat ((first | with_reducible refine vsI.id ?_ | with_reducible refine vcI_cond ?_); (try simp only [seval, go_sem])))
      have hc := frmRead_s msg.bytes _ z1 hb1 (by omega)
      have hR1' : WldR z1 e0 e1 rest n1 m1 := hR1
      cases hrd : frmRead msg.bytes with
      | none =>
        rw [hrd] at hc
        (try with_reducible refine callM.toT ?_); refine callP (hc) rfl rfl ?_; rintro u z2 hz2 rfl; (try simp only [seval, go_sem]); ((try simp only [seval, go_sem]); repeat ((first | with_reducible refine vsI.id ?_ | with_reducible refine vcI_cond ?_); (try simp only [seval, go_sem])))
        (((try simp only [seval, go_sem]); repeat ((first | with_reducible refine vsI.id ?_ | with_reducible refine vcI_cond ?_); (try simp only [seval, go_sem]))); refine FinV.own 999 rfl ?_; simp only [finE, finS, gt, look, SV.toV, SC.toV, allV, tupV, List.map_cons, List.map_nil, List.length_cons, List.length_nil, Nat.reduceAdd, Nat.reduceEqDiff, reduceCtorEq, if_true, if_false, reduceIte, Nat.succ_ne_self, true_and, List.getElem?_cons_zero, Nat.zero_add, Nat.add_zero])
        rw [hne]
        exact ⟨e0, e1, rest, n1, m1, rfl, by simp [hear1C, hrd], rfl, rfl, rfl, ⟨hR1'.e0.mono hz2, hR1'.e1.mono hz2, hR1'.n0, hR1'.n1⟩⟩
      | some f =>
        rw [hrd] at hc
        have hf := (frmRead_ok hrd).1
        (try with_reducible refine callM.toT ?_); refine callP (hc) rfl rfl ?_; rintro u z2 hz2 ⟨_, rfl, Ax, kx, csx, rfl, hkx, hex, hrx⟩; (try simp only [seval, go_sem]); ((try simp only [seval, go_sem]); repeat ((first | with_reducible refine vsI.id ?_ | with_reducible refine vcI_cond ?_); (try simp only [seval, go_sem])))
        have hR2 : WldR z2 e0 e1 rest n1 m1 := ⟨hR1'.e0.mono hz2, hR1'.e1.mono hz2, hR1'.n0, hR1'.n1⟩
        (try with_reducible refine callM.toT ?_); refine callW 999 (l9frame_c0 c link e0 e1 rest n1 m1 f (.slice Ax f.data.length kx) z2 hR2 hI hm hf ⟨Ax, kx, csx, rfl, hkx, hex, hrx⟩) rfl rfl rfl rfl ?_; rintro v z3 A' hz3 ⟨f0, f1, g0, g1, m', hw1, hw2, hw3, rfl, rfl, hR3⟩; (try simp only [seval, go_sem]); ((try simp only [seval, go_sem]); repeat ((first | with_reducible refine vsI.id ?_ | with_reducible refine vcI_cond ?_); (try simp only [seval, go_sem])))
        (((try simp only [seval, go_sem]); repeat ((first | with_reducible refine vsI.id ?_ | with_reducible refine vcI_cond ?_); (try simp only [seval, go_sem]))); refine FinV.own 999 rfl ?_; simp only [finE, finS, gt, look, SV.toV, SC.toV, allV, tupV, List.map_cons, List.map_nil, List.length_cons, List.length_nil, Nat.reduceAdd, Nat.reduceEqDiff, reduceCtorEq, if_true, if_false, reduceIte, Nat.succ_ne_self, true_and, List.getElem?_cons_zero, Nat.zero_add, Nat.add_zero])
        have hh : hear1C c e0 (msg :: rest) = hearC c e0 f := by simp only [hear1C, hrd]
        rw [hne]
        exact ⟨f0, f1, g0, g1, m', hw1, by rw [← hw2]; simp [hh], by rw [← hw3]; rfl, rfl, rfl, hR3⟩
    · simp only [seval, go_sem]
      ((try simp only [seval, go_sem]); repeat ((first | with_reducible refine vsI.id ?_ | with_reducible refine vcI_cond ?_); (try simp only [seval, go_sem])))
      (refine callT.tf (Tf.pack 999 [10, 11, 20, 21, 22, 23, 30, 31, 32, 33, 40, 41, 50, 51] (by simp only [popL, look, del, Nat.reduceEqDiff, reduceCtorEq, if_true, if_false, reduceIte, Nat.succ_ne_self]; exact rfl) (by simp only [look, Nat.reduceEqDiff, reduceCtorEq, if_true, if_false, reduceIte])) ?_); dsimp only
      (try with_reducible refine callM.toT ?_); refine callW 999 (l9first0 c link e0 e1 n0 n1 msg rest m z hR hne (by omega)) rfl rfl rfl rfl ?_; rintro u z1 A' hz1 ⟨m1, A1, k1, rfl, rfl, hR1, hb1⟩; (try simp only [seval, go_sem]); ((try simp only [seval, go_sem]); repeat ((first | with_reducible refine vsI.id ?_ | with_reducible refine vcI_cond ?_); (try simp only [seval, go_sem])))
      (((try simp only [seval, go_sem]); repeat ((first | with_reducible refine vsI.id ?_ | with_reducible refine vcI_cond ?_); (try simp only [seval, go_sem]))); refine FinV.own 999 rfl ?_; simp only [finE, finS, gt, look, SV.toV, SC.toV, allV, tupV, List.map_cons, List.map_nil, List.length_cons, List.length_nil, Nat.reduceAdd, Nat.reduceEqDiff, reduceCtorEq, if_true, if_false, reduceIte, Nat.succ_ne_self, true_and, List.getElem?_cons_zero, Nat.zero_add, Nat.add_zero])
      rw [hne]
      exact ⟨_, _, _, _, m1, rfl, rfl, rfl, rfl, rfl, hR1⟩
theorem l9net_c1 (c : Cfg) (link : Int) (e0 e1 : End) (n0 n1 : List Msg) (m : WM) (ev : Evt) (v : Value) (z : Zc) (hv : By z ev.data v) (hR : WldR z e0 e1 n0 n1 m) (hI : EndI c e1) (hN : NetI n1) (hm : c.mode = 2) (hw : ev.who = 1) (hk : ev.kind = 7 ∨ ev.kind = 8) :
    Spec Tryz.prog 90 [wldV c link m, vEvt ev v] z (wldA e0 e1 n0 n1 m) (WldH c ⟨c, [e0, e1].set 1 (if ev.kind = 7 then hear1C c e1 n1 else e1), [n0, n1].set 1 (n1.drop 1), link⟩) := by
  obtain ⟨kind, who, at_, vv, data⟩ := ev
  dsimp only at *
  subst hw
  obtain ⟨Av, kv, rfl, hkv, hBv, hrv⟩ := hv.form
  (refine spec_enterL [10, 11, 20, 21, 22, 23, 30, 31, 32, 33, 40, 41, 50, 51] Tryz.func90 ic90_ok fr90_ok Tryz.ntmps90 rfl ?_; simp only [seval, go_sem, ic90, fr90, zipL])
  refine vsI.atR 11 rfl fun hA => ?_
  have hA := hA (by omega)
  ((try simp only [seval, go_sem]); repeat ((first | with_reducible refine vsI.id ?_ | with_reducible refine vcI_cond ?_); (try simp only [seval, go_sem])))
  ((first | refine ⟨⟨by omega, hA⟩, ?_⟩ | refine ⟨hA, ?_⟩); (try simp only [seval, go_sem]))
  (refine ldF.one _ (RdS.cell 11 rfl rfl) ?_; simp only [seval, go_sem]; ((try simp only [seval, go_sem]); repeat ((first | with_reducible refine vsI.id ?_ | with_reducible refine vcI_cond ?_); (try simp only [seval, go_sem]))))
  (with_reducible refine condI.split (fun hg => ?_) (fun hg => ?_) <;> (try simp only [hg]) <;> (try simp only [seval, go_sem]))
  · have h0 : n1 = [] := List.eq_nil_of_length_eq_zero (by simp at hg; simp [hg])
    ((try simp only [seval, go_sem]); repeat ((first | with_reducible refine vsI.id ?_ | with_reducible refine vcI_cond ?_); (try simp only [seval, go_sem])))
    (refine FinV.tf (Tf.pack 999 [10, 11, 20, 21, 22, 23, 30, 31, 32, 33, 40, 41, 50, 51] (by simp only [popL, look, del, Nat.reduceEqDiff, reduceCtorEq, if_true, if_false, reduceIte, Nat.succ_ne_self]; exact rfl) (by simp only [look, Nat.reduceEqDiff, reduceCtorEq, if_true, if_false, reduceIte])) ?_); dsimp only
    (((try simp only [seval, go_sem]); repeat ((first | with_reducible refine vsI.id ?_ | with_reducible refine vcI_cond ?_); (try simp only [seval, go_sem]))); refine FinV.own 999 rfl ?_; simp only [finE, finS, gt, look, SV.toV, SC.toV, allV, tupV, List.map_cons, List.map_nil, List.length_cons, List.length_nil, Nat.reduceAdd, Nat.reduceEqDiff, reduceCtorEq, if_true, if_false, reduceIte, Nat.succ_ne_self, true_and, List.getElem?_cons_zero, Nat.zero_add, Nat.add_zero])
    subst h0
    exact ⟨e0, e1, n0, [], m, rfl, by simp [hear1C], rfl, rfl, rfl, hR⟩
  · obtain ⟨msg, rest, hne⟩ : ∃ msg rest, n1 = msg :: rest := by
      cases hx : n1 with
      | nil => rw [hx] at hg; simp at hg
      | cons a b => exact ⟨a, b, rfl⟩
    have h15 : msg.bytes.length ≤ 15 := hN.2 msg (by rw [hne]; simp)
    have hn30 := hN.1
    rcases hk with rfl | rfl
    · simp only [seval, go_sem]
      ((try simp only [seval, go_sem]); repeat ((first | with_reducible refine vsI.id ?_ | with_reducible refine vcI_cond ?_); (try simp only [seval, go_sem])))
      (refine callT.tf (Tf.pack 999 [10, 11, 20, 21, 22, 23, 30, 31, 32, 33, 40, 41, 50, 51] (by simp only [popL, look, del, Nat.reduceEqDiff, reduceCtorEq, if_true, if_false, reduceIte, Nat.succ_ne_self]; exact rfl) (by simp only [look, Nat.reduceEqDiff, reduceCtorEq, if_true, if_false, reduceIte])) ?_); dsimp only
      (try with_reducible refine callM.toT ?_); refine callW 999 (l9first1 c link e0 e1 n0 n1 msg rest m z hR hne (by omega)) rfl rfl rfl rfl ?_; rintro u z1 A' hz1 ⟨m1, A1, k1, rfl, rfl, hR1, hb1⟩; (try simp only [seval, go_sem]); ((try simp only [seval, go_sem]); repeat ((first | with_reducible refine vsI.id ?_ | with_reducible refine vcI_cond ?_); (try simp only [seval, go_sem])))
      have hc := frmRead_s msg.bytes _ z1 hb1 (by omega)
      have hR1' : WldR z1 e0 e1 n0 rest m1 := hR1
      cases hrd : frmRead msg.bytes with
      | none =>
        rw [hrd] at hc
        (try with_reducible refine callM.toT ?_); refine callP (hc) rfl rfl ?_; rintro u z2 hz2 rfl; (try simp only [seval, go_sem]); ((try simp only [seval, go_sem]); repeat ((first | with_reducible refine vsI.id ?_ | with_reducible refine vcI_cond ?_); (try simp only [seval, go_sem])))
        (((try simp only [seval, go_sem]); repeat ((first | with_reducible refine vsI.id ?_ | with_reducible refine vcI_cond ?_); (try simp only [seval, go_sem]))); refine FinV.own 999 rfl ?_; simp only [finE, finS, gt, look, SV.toV, SC.toV, allV, tupV, List.map_cons, List.map_nil, List.length_cons, List.length_nil, Nat.reduceAdd, Nat.reduceEqDiff, reduceCtorEq, if_true, if_false, reduceIte, Nat.succ_ne_self, true_and, List.getElem?_cons_zero, Nat.zero_add, Nat.add_zero])
        rw [hne]
        exact ⟨e0, e1, n0, rest, m1, rfl, by simp [hear1C, hrd], rfl, rfl, rfl, ⟨hR1'.e0.mono hz2, hR1'.e1.mono hz2, hR1'.n0, hR1'.n1⟩⟩
      | some f =>
        rw [hrd] at hc
        have hf := (frmRead_ok hrd).1
        (try with_reducible refine callM.toT ?_); refine callP (hc) rfl rfl ?_; rintro u z2 hz2 ⟨_, rfl, Ax, kx, csx, rfl, hkx, hex, hrx⟩; (try simp only [seval, go_sem]); ((try simp only [seval, go_sem]); repeat ((first | with_reducible refine vsI.id ?_ | with_reducible refine vcI_cond ?_); (try simp only [seval, go_sem])))
        have hR2 : WldR z2 e0 e1 n0 rest m1 := ⟨hR1'.e0.mono hz2, hR1'.e1.mono hz2, hR1'.n0, hR1'.n1⟩
        (try with_reducible refine callM.toT ?_); refine callW 999 (l9frame_c1 c link e0 e1 n0 rest m1 f (.slice Ax f.data.length kx) z2 hR2 hI hm hf ⟨Ax, kx, csx, rfl, hkx, hex, hrx⟩) rfl rfl rfl rfl ?_; rintro v z3 A' hz3 ⟨f0, f1, g0, g1, m', hw1, hw2, hw3, rfl, rfl, hR3⟩; (try simp only [seval, go_sem]); ((try simp only [seval, go_sem]); repeat ((first | with_reducible refine vsI.id ?_ | with_reducible refine vcI_cond ?_); (try simp only [seval, go_sem])))
        (((try simp only [seval, go_sem]); repeat ((first | with_reducible refine vsI.id ?_ | with_reducible refine vcI_cond ?_); (try simp only [seval, go_sem]))); refine FinV.own 999 rfl ?_; simp only [finE, finS, gt, look, SV.toV, SC.toV, allV, tupV, List.map_cons, List.map_nil, List.length_cons, List.length_nil, Nat.reduceAdd, Nat.reduceEqDiff, reduceCtorEq, if_true, if_false, reduceIte, Nat.succ_ne_self, true_and, List.getElem?_cons_zero, Nat.zero_add, Nat.add_zero])
        have hh : hear1C c e1 (msg :: rest) = hearC c e1 f := by simp only [hear1C, hrd]
        rw [hne]
        exact ⟨f0, f1, g0, g1, m', hw1, by rw [← hw2]; simp [hh], by rw [← hw3]; rfl, rfl, rfl, hR3⟩
    · simp only [seval, go_sem]
      ((try simp only [seval, go_sem]); repeat ((first | with_reducible refine vsI.id ?_ | with_reducible refine vcI_cond ?_); (try simp only [seval, go_sem])))
      (refine callT.tf (Tf.pack 999 [10, 11, 20, 21, 22, 23, 30, 31, 32, 33, 40, 41, 50, 51] (by simp only [popL, look, del, Nat.reduceEqDiff, reduceCtorEq, if_true, if_false, reduceIte, Nat.succ_ne_self]; exact rfl) (by simp only [look, Nat.reduceEqDiff, reduceCtorEq, if_true, if_false, reduceIte])) ?_); dsimp only
      (try with_reducible refine callM.toT ?_); refine callW 999 (l9first1 c link e0 e1 n0 n1 msg rest m z hR hne (by omega)) rfl rfl rfl rfl ?_; rintro u z1 A' hz1 ⟨m1, A1, k1, rfl, rfl, hR1, hb1⟩; (try simp only [seval, go_sem]); ((try simp only [seval, go_sem]); repeat ((first | with_reducible refine vsI.id ?_ | with_reducible refine vcI_cond ?_); (try simp only [seval, go_sem])))
      (((try simp only [seval, go_sem]); repeat ((first | with_reducible refine vsI.id ?_ | with_reducible refine vcI_cond ?_); (try simp only [seval, go_sem]))); refine FinV.own 999 rfl ?_; simp only [finE, finS, gt, look, SV.toV, SC.toV, allV, tupV, List.map_cons, List.map_nil, List.length_cons, List.length_nil, Nat.reduceAdd, Nat.reduceEqDiff, reduceCtorEq, if_true, if_false, reduceIte, Nat.succ_ne_self, true_and, List.getElem?_cons_zero, Nat.zero_add, Nat.add_zero])
      rw [hne]
      exact ⟨_, _, _, _, m1, rfl, rfl, rfl, rfl, rfl, hR1⟩
end Go.Proofs.YtpjaidjnamngaaaGreat
namespace Go.Proofs.YtpjaidjnamngaaaGreat
set_option linter.unusedVariables false
set_option linter.unusedSimpArgs false
open Go.RowKit
set_option maxRecDepth 100000
set_option maxHeartbeats 1000000
theorem l9put_f0 (c : Cfg) (link : Int) (e0 e1 : End) (n0 n1 : List Msg) (m : WM) (v : Value) (z : Zc) (hR : WldR z e0 e1 n0 n1 m) (sdu : List Int) (hv : By z sdu v) (h60 : e0.put.length = 60) :
    Spec Tryz.prog 86 [wldV c link m, .int .i64 0, v] z (wldA e0 e1 n0 n1 m) (WldH c ⟨c, [e0, e1], [n0, n1], link⟩) := by
  obtain ⟨Av, kv, rfl, hkv, hBv, hrv⟩ := hv.form
  (refine spec_enterL [10, 11, 20, 21, 22, 23, 30, 31, 32, 33, 40, 41, 50, 51] Tryz.func86 ic86_ok fr86_ok Tryz.ntmps86 rfl ?_; simp only [seval, go_sem, ic86, fr86, zipL])
  refine vsI.atR 10 rfl fun hE => ?_
  have hE := hE (by omega)
  ((try simp only [seval, go_sem]); repeat ((first | with_reducible refine vsI.id ?_ | with_reducible refine vcI_cond ?_); (try simp only [seval, go_sem])))
  ((first | refine ⟨⟨by omega, hE⟩, ?_⟩ | refine ⟨hE, ?_⟩); (try simp only [seval, go_sem]))
  (refine ldF.agg (sz := 28) _ rfl (by exact .inr ⟨10, _, _, _, _, _, rfl, fun i u hu => ends_get0 hu⟩) ?_; simp only [seval, go_sem, endC]; ((try simp only [seval, go_sem]); repeat ((first | with_reducible refine vsI.id ?_ | with_reducible refine vcI_cond ?_); (try simp only [seval, go_sem]))))
  (with_reducible refine condI.split (fun hg => ?_) (fun hg => ?_) <;> (try simp only [hg]) <;> (try simp only [seval, go_sem]))
  · ((try simp only [seval, go_sem]); repeat ((first | with_reducible refine vsI.id ?_ | with_reducible refine vcI_cond ?_); (try simp only [seval, go_sem])))
    (refine FinV.tf (Tf.pack 999 [10, 11, 20, 21, 22, 23, 30, 31, 32, 33, 40, 41, 50, 51] (by simp only [popL, look, del, Nat.reduceEqDiff, reduceCtorEq, if_true, if_false, reduceIte, Nat.succ_ne_self]; exact rfl) (by simp only [look, Nat.reduceEqDiff, reduceCtorEq, if_true, if_false, reduceIte])) ?_); dsimp only
    (((try simp only [seval, go_sem]); repeat ((first | with_reducible refine vsI.id ?_ | with_reducible refine vcI_cond ?_); (try simp only [seval, go_sem]))); refine FinV.own 999 rfl ?_; simp only [finE, finS, gt, look, SV.toV, SC.toV, allV, tupV, List.map_cons, List.map_nil, List.length_cons, List.length_nil, Nat.reduceAdd, Nat.reduceEqDiff, reduceCtorEq, if_true, if_false, reduceIte, Nat.succ_ne_self, true_and, List.getElem?_cons_zero, Nat.zero_add, Nat.add_zero])
    exact ⟨e0, e1, n0, n1, m, rfl, rfl, rfl, rfl, rfl, hR⟩
  · exfalso
    simp [h60] at hg
theorem l9tick_c0 (c : Cfg) (link : Int) (e0 e1 : End) (n0 n1 : List Msg) (m : WM) (z : Zc) (hR : WldR z e0 e1 n0 n1 m) (hm : c.mode = 2) :
    Spec Tryz.prog 88 [wldV c link m, .int .i64 0] z (wldA e0 e1 n0 n1 m) (WldH c ⟨c, [e0, e1], [n0, n1], link⟩) := by
  (refine spec_enterL [10, 11, 20, 21, 22, 23, 30, 31, 32, 33, 40, 41, 50, 51] Tryz.func88 ic88_ok fr88_ok Tryz.ntmps88 rfl ?_; simp only [seval, go_sem, ic88, fr88, zipL])
  refine vsI.atR 10 rfl fun hE => ?_
  have hE := hE (by omega)
  ((try simp only [seval, go_sem]); repeat ((first | with_reducible refine vsI.id ?_ | with_reducible refine vcI_cond ?_); (try simp only [seval, go_sem])))
  ((first | refine ⟨⟨by omega, hE⟩, ?_⟩ | refine ⟨hE, ?_⟩); (try simp only [seval, go_sem]))
  (refine ldF.agg (sz := 28) _ rfl (by exact .inr ⟨10, _, _, _, _, _, rfl, fun i u hu => ends_get0 hu⟩) ?_; simp only [seval, go_sem, endC]; ((try simp only [seval, go_sem]); repeat ((first | with_reducible refine vsI.id ?_ | with_reducible refine vcI_cond ?_); (try simp only [seval, go_sem]))))
  (with_reducible refine condI.split (fun hg => ?_) (fun hg => ?_) <;> (try simp only [hg]) <;> (try simp only [seval, go_sem]))
  · ((try simp only [seval, go_sem]); repeat ((first | with_reducible refine vsI.id ?_ | with_reducible refine vcI_cond ?_); (try simp only [seval, go_sem])))
    (refine FinV.tf (Tf.pack 999 [10, 11, 20, 21, 22, 23, 30, 31, 32, 33, 40, 41, 50, 51] (by simp only [popL, look, del, Nat.reduceEqDiff, reduceCtorEq, if_true, if_false, reduceIte, Nat.succ_ne_self]; exact rfl) (by simp only [look, Nat.reduceEqDiff, reduceCtorEq, if_true, if_false, reduceIte])) ?_); dsimp only
    (((try simp only [seval, go_sem]); repeat ((first | with_reducible refine vsI.id ?_ | with_reducible refine vcI_cond ?_); (try simp only [seval, go_sem]))); refine FinV.own 999 rfl ?_; simp only [finE, finS, gt, look, SV.toV, SC.toV, allV, tupV, List.map_cons, List.map_nil, List.length_cons, List.length_nil, Nat.reduceAdd, Nat.reduceEqDiff, reduceCtorEq, if_true, if_false, reduceIte, Nat.succ_ne_self, true_and, List.getElem?_cons_zero, Nat.zero_add, Nat.add_zero])
    exact ⟨e0, e1, n0, n1, m, rfl, rfl, rfl, rfl, rfl, hR⟩
  · exfalso
    simp [hm] at hg
theorem l9put_f1 (c : Cfg) (link : Int) (e0 e1 : End) (n0 n1 : List Msg) (m : WM) (v : Value) (z : Zc) (hR : WldR z e0 e1 n0 n1 m) (sdu : List Int) (hv : By z sdu v) (h60 : e1.put.length = 60) :
    Spec Tryz.prog 86 [wldV c link m, .int .i64 1, v] z (wldA e0 e1 n0 n1 m) (WldH c ⟨c, [e0, e1], [n0, n1], link⟩) := by
  obtain ⟨Av, kv, rfl, hkv, hBv, hrv⟩ := hv.form
  (refine spec_enterL [10, 11, 20, 21, 22, 23, 30, 31, 32, 33, 40, 41, 50, 51] Tryz.func86 ic86_ok fr86_ok Tryz.ntmps86 rfl ?_; simp only [seval, go_sem, ic86, fr86, zipL])
  refine vsI.atR 10 rfl fun hE => ?_
  have hE := hE (by omega)
  ((try simp only [seval, go_sem]); repeat ((first | with_reducible refine vsI.id ?_ | with_reducible refine vcI_cond ?_); (try simp only [seval, go_sem])))
  ((first | refine ⟨⟨by omega, hE⟩, ?_⟩ | refine ⟨hE, ?_⟩); (try simp only [seval, go_sem]))
  (refine ldF.agg (sz := 28) _ rfl (by exact .inr ⟨10, _, _, _, _, _, rfl, fun i u hu => ends_get1 hu⟩) ?_; simp only [seval, go_sem, endC]; ((try simp only [seval, go_sem]); repeat ((first | with_reducible refine vsI.id ?_ | with_reducible refine vcI_cond ?_); (try simp only [seval, go_sem]))))
  (with_reducible refine condI.split (fun hg => ?_) (fun hg => ?_) <;> (try simp only [hg]) <;> (try simp only [seval, go_sem]))
  · ((try simp only [seval, go_sem]); repeat ((first | with_reducible refine vsI.id ?_ | with_reducible refine vcI_cond ?_); (try simp only [seval, go_sem])))
    (refine FinV.tf (Tf.pack 999 [10, 11, 20, 21, 22, 23, 30, 31, 32, 33, 40, 41, 50, 51] (by simp only [popL, look, del, Nat.reduceEqDiff, reduceCtorEq, if_true, if_false, reduceIte, Nat.succ_ne_self]; exact rfl) (by simp only [look, Nat.reduceEqDiff, reduceCtorEq, if_true, if_false, reduceIte])) ?_); dsimp only
    (((try simp only [seval, go_sem]); repeat ((first | with_reducible refine vsI.id ?_ | with_reducible refine vcI_cond ?_); (try simp only [seval, go_sem]))); refine FinV.own 999 rfl ?_; simp only [finE, finS, gt, look, SV.toV, SC.toV, allV, tupV, List.map_cons, List.map_nil, List.length_cons, List.length_nil, Nat.reduceAdd, Nat.reduceEqDiff, reduceCtorEq, if_true, if_false, reduceIte, Nat.succ_ne_self, true_and, List.getElem?_cons_zero, Nat.zero_add, Nat.add_zero])
    exact ⟨e0, e1, n0, n1, m, rfl, rfl, rfl, rfl, rfl, hR⟩
  · exfalso
    simp [h60] at hg
theorem l9tick_c1 (c : Cfg) (link : Int) (e0 e1 : End) (n0 n1 : List Msg) (m : WM) (z : Zc) (hR : WldR z e0 e1 n0 n1 m) (hm : c.mode = 2) :
    Spec Tryz.prog 88 [wldV c link m, .int .i64 1] z (wldA e0 e1 n0 n1 m) (WldH c ⟨c, [e0, e1], [n0, n1], link⟩) := by
  (refine spec_enterL [10, 11, 20, 21, 22, 23, 30, 31, 32, 33, 40, 41, 50, 51] Tryz.func88 ic88_ok fr88_ok Tryz.ntmps88 rfl ?_; simp only [seval, go_sem, ic88, fr88, zipL])
  refine vsI.atR 10 rfl fun hE => ?_
  have hE := hE (by omega)
  ((try simp only [seval, go_sem]); repeat ((first | with_reducible refine vsI.id ?_ | with_reducible refine vcI_cond ?_); (try simp only [seval, go_sem])))
  ((first | refine ⟨⟨by omega, hE⟩, ?_⟩ | refine ⟨hE, ?_⟩); (try simp only [seval, go_sem]))
  (refine ldF.agg (sz := 28) _ rfl (by exact .inr ⟨10, _, _, _, _, _, rfl, fun i u hu => ends_get1 hu⟩) ?_; simp only [seval, go_sem, endC]; ((try simp only [seval, go_sem]); repeat ((first | with_reducible refine vsI.id ?_ | with_reducible refine vcI_cond ?_); (try simp only [seval, go_sem]))))
  (with_reducible refine condI.split (fun hg => ?_) (fun hg => ?_) <;> (try simp only [hg]) <;> (try simp only [seval, go_sem]))
  · ((try simp only [seval, go_sem]); repeat ((first | with_reducible refine vsI.id ?_ | with_reducible refine vcI_cond ?_); (try simp only [seval, go_sem])))
    (refine FinV.tf (Tf.pack 999 [10, 11, 20, 21, 22, 23, 30, 31, 32, 33, 40, 41, 50, 51] (by simp only [popL, look, del, Nat.reduceEqDiff, reduceCtorEq, if_true, if_false, reduceIte, Nat.succ_ne_self]; exact rfl) (by simp only [look, Nat.reduceEqDiff, reduceCtorEq, if_true, if_false, reduceIte])) ?_); dsimp only
    (((try simp only [seval, go_sem]); repeat ((first | with_reducible refine vsI.id ?_ | with_reducible refine vcI_cond ?_); (try simp only [seval, go_sem]))); refine FinV.own 999 rfl ?_; simp only [finE, finS, gt, look, SV.toV, SC.toV, allV, tupV, List.map_cons, List.map_nil, List.length_cons, List.length_nil, Nat.reduceAdd, Nat.reduceEqDiff, reduceCtorEq, if_true, if_false, reduceIte, Nat.succ_ne_self, true_and, List.getElem?_cons_zero, Nat.zero_add, Nat.add_zero])
    exact ⟨e0, e1, n0, n1, m, rfl, rfl, rfl, rfl, rfl, hR⟩
  · exfalso
    simp [hm] at hg
theorem step_put0 (c : Cfg) (link : Int) (e0 e1 : End) (n0 n1 : List Msg) (ev : Evt) (hm : c.mode = 2) (hk : ev.kind = 1) (hw : ev.who = 0) : step true ⟨c, [e0, e1], [n0, n1], link⟩ ev = if e0.put.length < 60 then ⟨c, [e0, e1].set 0 (putM c e0 ev.data), [n0, n1], link⟩ else ⟨c, [e0, e1], [n0, n1], link⟩ := by
  obtain ⟨kind, who, at_, v, data⟩ := ev
  obtain ⟨mode, win, mps, mtu, tri⟩ := c
  dsimp only at *
  subst hm hk hw
  rfl
theorem step_send0 (c : Cfg) (link : Int) (e0 e1 : End) (n0 n1 : List Msg) (ev : Evt) (hm : c.mode = 2) (hk : ev.kind = 2) (hw : ev.who = 0) : step true ⟨c, [e0, e1], [n0, n1], link⟩ ev = if n1.length < 30 then sayO ⟨c, [e0, e1].set 0 { e0 with ctx := (crdSend e0.ctx).1 }, [n0, n1], link⟩ 0 (crdSend e0.ctx).2 else ⟨c, [e0, e1], [n0, n1], link⟩ := by
  obtain ⟨kind, who, at_, v, data⟩ := ev
  obtain ⟨mode, win, mps, mtu, tri⟩ := c
  dsimp only at *
  subst hm hk hw
  rfl
theorem step_tick0 (c : Cfg) (link : Int) (e0 e1 : End) (n0 n1 : List Msg) (ev : Evt) (hm : c.mode = 2) (hk : ev.kind = 3 ∨ ev.kind = 4 ∨ ev.kind = 5) (hw : ev.who = 0) : step true ⟨c, [e0, e1], [n0, n1], link⟩ ev = ⟨c, [e0, e1], [n0, n1], link⟩ := by
  obtain ⟨kind, who, at_, v, data⟩ := ev
  obtain ⟨mode, win, mps, mtu, tri⟩ := c
  dsimp only at *
  subst hm hw
  rcases hk with rfl | rfl | rfl <;> rfl
theorem step_grant0 (c : Cfg) (link : Int) (e0 e1 : End) (n0 n1 : List Msg) (ev : Evt) (hm : c.mode = 2) (hk : ev.kind = 6) (hw : ev.who = 0) : step true ⟨c, [e0, e1], [n0, n1], link⟩ ev = if n1.length < 30 then sayO ⟨c, [e0, e1].set 0 { e0 with crx := (crdGrant e0.crx).1 }, [n0, n1], link⟩ 0 (crdGrant e0.crx).2 else ⟨c, [e0, e1], [n0, n1], link⟩ := by
  obtain ⟨kind, who, at_, v, data⟩ := ev
  obtain ⟨mode, win, mps, mtu, tri⟩ := c
  dsimp only at *
  subst hm hk hw
  rfl
theorem step_lose0 (c : Cfg) (link : Int) (e0 e1 : End) (n0 n1 : List Msg) (ev : Evt) (hk : ev.kind = 8) (hw : ev.who = 0) : step true ⟨c, [e0, e1], [n0, n1], link⟩ ev = ⟨c, [e0, e1], [n0, n1].set 0 (n0.drop 1), link⟩ := by
  obtain ⟨kind, who, at_, v, data⟩ := ev
  dsimp only at *
  subst hk hw
  rfl
theorem step_hear0 (c : Cfg) (link : Int) (e0 e1 : End) (n0 n1 : List Msg) (ev : Evt) (hm : c.mode = 2) (hk : ev.kind = 7) (hw : ev.who = 0) : step true ⟨c, [e0, e1], [n0, n1], link⟩ ev = ⟨c, [e0, e1].set 0 (hear1C c e0 n0), [n0, n1].set 0 (n0.drop 1), link⟩ := by
  obtain ⟨kind, who, at_, v, data⟩ := ev
  obtain ⟨mode, win, mps, mtu, tri⟩ := c
  dsimp only at *
  subst hm hk hw
  cases n0 with
  | nil => rfl
  | cons a l =>
    show hear1 ⟨⟨2, win, mps, mtu, tri⟩, [e0, e1], [a :: l, n1], link⟩ 0 = _
    simp only [hear1, netAt, List.getD_cons_zero, List.getD_cons_succ, hear1C]
    cases frmRead a.bytes with
    | none => rfl
    | some f =>
      simp only [hearC]
      by_cases h4 : f.kind = 4
      · simp only [hearF, h4]; rfl
      · by_cases h3 : f.kind = 3
        · simp only [hearF, h3]; rfl
        · simp only [hearF, if_neg h4, if_neg h3]; rfl
theorem step_put1 (c : Cfg) (link : Int) (e0 e1 : End) (n0 n1 : List Msg) (ev : Evt) (hm : c.mode = 2) (hk : ev.kind = 1) (hw : ev.who = 1) : step true ⟨c, [e0, e1], [n0, n1], link⟩ ev = if e1.put.length < 60 then ⟨c, [e0, e1].set 1 (putM c e1 ev.data), [n0, n1], link⟩ else ⟨c, [e0, e1], [n0, n1], link⟩ := by
  obtain ⟨kind, who, at_, v, data⟩ := ev
  obtain ⟨mode, win, mps, mtu, tri⟩ := c
  dsimp only at *
  subst hm hk hw
  rfl
theorem step_send1 (c : Cfg) (link : Int) (e0 e1 : End) (n0 n1 : List Msg) (ev : Evt) (hm : c.mode = 2) (hk : ev.kind = 2) (hw : ev.who = 1) : step true ⟨c, [e0, e1], [n0, n1], link⟩ ev = if n0.length < 30 then sayO ⟨c, [e0, e1].set 1 { e1 with ctx := (crdSend e1.ctx).1 }, [n0, n1], link⟩ 1 (crdSend e1.ctx).2 else ⟨c, [e0, e1], [n0, n1], link⟩ := by
  obtain ⟨kind, who, at_, v, data⟩ := ev
  obtain ⟨mode, win, mps, mtu, tri⟩ := c
  dsimp only at *
  subst hm hk hw
  rfl
theorem step_tick1 (c : Cfg) (link : Int) (e0 e1 : End) (n0 n1 : List Msg) (ev : Evt) (hm : c.mode = 2) (hk : ev.kind = 3 ∨ ev.kind = 4 ∨ ev.kind = 5) (hw : ev.who = 1) : step true ⟨c, [e0, e1], [n0, n1], link⟩ ev = ⟨c, [e0, e1], [n0, n1], link⟩ := by
  obtain ⟨kind, who, at_, v, data⟩ := ev
  obtain ⟨mode, win, mps, mtu, tri⟩ := c
  dsimp only at *
  subst hm hw
  rcases hk with rfl | rfl | rfl <;> rfl
theorem step_grant1 (c : Cfg) (link : Int) (e0 e1 : End) (n0 n1 : List Msg) (ev : Evt) (hm : c.mode = 2) (hk : ev.kind = 6) (hw : ev.who = 1) : step true ⟨c, [e0, e1], [n0, n1], link⟩ ev = if n0.length < 30 then sayO ⟨c, [e0, e1].set 1 { e1 with crx := (crdGrant e1.crx).1 }, [n0, n1], link⟩ 1 (crdGrant e1.crx).2 else ⟨c, [e0, e1], [n0, n1], link⟩ := by
  obtain ⟨kind, who, at_, v, data⟩ := ev
  obtain ⟨mode, win, mps, mtu, tri⟩ := c
  dsimp only at *
  subst hm hk hw
  rfl
theorem step_lose1 (c : Cfg) (link : Int) (e0 e1 : End) (n0 n1 : List Msg) (ev : Evt) (hk : ev.kind = 8) (hw : ev.who = 1) : step true ⟨c, [e0, e1], [n0, n1], link⟩ ev = ⟨c, [e0, e1], [n0, n1].set 1 (n1.drop 1), link⟩ := by
  obtain ⟨kind, who, at_, v, data⟩ := ev
  dsimp only at *
  subst hk hw
  rfl
theorem step_hear1 (c : Cfg) (link : Int) (e0 e1 : End) (n0 n1 : List Msg) (ev : Evt) (hm : c.mode = 2) (hk : ev.kind = 7) (hw : ev.who = 1) : step true ⟨c, [e0, e1], [n0, n1], link⟩ ev = ⟨c, [e0, e1].set 1 (hear1C c e1 n1), [n0, n1].set 1 (n1.drop 1), link⟩ := by
  obtain ⟨kind, who, at_, v, data⟩ := ev
  obtain ⟨mode, win, mps, mtu, tri⟩ := c
  dsimp only at *
  subst hm hk hw
  cases n1 with
  | nil => rfl
  | cons a l =>
    show hear1 ⟨⟨2, win, mps, mtu, tri⟩, [e0, e1], [n0, a :: l], link⟩ 1 = _
    simp only [hear1, netAt, List.getD_cons_zero, List.getD_cons_succ, hear1C]
    cases frmRead a.bytes with
    | none => rfl
    | some f =>
      simp only [hearC]
      by_cases h4 : f.kind = 4
      · simp only [hearF, h4]; rfl
      · by_cases h3 : f.kind = 3
        · simp only [hearF, h3]; rfl
        · simp only [hearF, if_neg h4, if_neg h3]; rfl
end Go.Proofs.YtpjaidjnamngaaaGreat
