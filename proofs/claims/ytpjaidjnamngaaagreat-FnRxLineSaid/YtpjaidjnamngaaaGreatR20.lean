/- A step, whatever happens, by the reference. · What is drawn to happen, whatever is lost, bent, or moved. · What is drawn to happen to two ends, of one kind. -/
import Derived.Test.YtpjaidjnamngaaaGreatR19
import Derived.Test.YtpjaidjnamngaaaGreatR14
import Derived.Test.YtpjaidjnamngaaaGreatR15
import Derived.Test.YtpjaidjnamngaaaGreatR17
namespace Go.Proofs.YtpjaidjnamngaaaGreat
open Go.RowKit
set_option linter.unusedVariables false
set_option linter.unusedSimpArgs false
set_option maxRecDepth 100000
set_option maxHeartbeats 1000000
theorem stepn_put0 (c : Cfg) (link : Int) (e0 e1 : End) (n0 n1 : List Msg) (ev : Evt) (hm : c.mode = 1) (hk : ev.kind = 1) (hw : ev.who = 0) : step true ⟨c, [e0, e1], [n0, n1], link⟩ ev = if e0.put.length < 60 then ⟨c, [e0, e1].set 0 (putM c e0 ev.data), [n0, n1], link⟩ else ⟨c, [e0, e1], [n0, n1], link⟩ := by
  obtain ⟨kind, who, at_, v, data⟩ := ev
  obtain ⟨mode, win, mps, mtu, tri⟩ := c
  dsimp only at *
  subst hm hk hw
  rfl
theorem stepn_send0 (c : Cfg) (link : Int) (e0 e1 : End) (n0 n1 : List Msg) (ev : Evt) (hm : c.mode = 1) (hk : ev.kind = 2) (hw : ev.who = 0) : step true ⟨c, [e0, e1], [n0, n1], link⟩ ev = if n1.length < 30 then sayO ⟨c, [e0, e1].set 0 { e0 with tx := (txSend true c e0.tx e0.rx.expect).1 }, [n0, n1], link⟩ 0 (txSend true c e0.tx e0.rx.expect).2 else ⟨c, [e0, e1], [n0, n1], link⟩ := by
  obtain ⟨kind, who, at_, v, data⟩ := ev
  obtain ⟨mode, win, mps, mtu, tri⟩ := c
  dsimp only at *
  subst hm hk hw
  rfl
theorem stepn_tick0 (c : Cfg) (link : Int) (e0 e1 : End) (n0 n1 : List Msg) (ev : Evt) (hm : c.mode = 1) (hk : ev.kind = 3) (hw : ev.who = 0) : step true ⟨c, [e0, e1], [n0, n1], link⟩ ev = sayO ⟨c, [e0, e1].set 0 { e0 with tx := (txTick c e0.tx e0.rx.expect e0.rx.busy).1 }, [n0, n1], link⟩ 0 (txTick c e0.tx e0.rx.expect e0.rx.busy).2 := by
  obtain ⟨kind, who, at_, v, data⟩ := ev
  obtain ⟨mode, win, mps, mtu, tri⟩ := c
  dsimp only at *
  subst hm hk hw
  rfl
theorem stepn_say0 (c : Cfg) (link : Int) (e0 e1 : End) (n0 n1 : List Msg) (ev : Evt) (hm : c.mode = 1) (hk : ev.kind = 4 ∨ ev.kind = 5 ∨ ev.kind = 6) (hw : ev.who = 0) : step true ⟨c, [e0, e1], [n0, n1], link⟩ ev = if ev.kind = 4 then says ⟨c, [e0, e1].set 0 { e0 with rx := (rxBusy e0.rx (decide (ev.v = 1))).1 }, [n0, n1], link⟩ 0 (rxBusy e0.rx (decide (ev.v = 1))).2 else if ev.kind = 5 ∧ e0.rx.dead = false then say1 ⟨c, [e0, e1], [n0, n1], link⟩ 0 (rxAck e0.rx) else ⟨c, [e0, e1], [n0, n1], link⟩ := by
  obtain ⟨kind, who, at_, v, data⟩ := ev
  obtain ⟨mode, win, mps, mtu, tri⟩ := c
  dsimp only at *
  subst hm hw
  rcases hk with rfl | rfl | rfl
  · rfl
  · show (if e0.rx.dead = true then _ else _) = _
    cases e0.rx.dead <;> rfl
  · rfl
theorem stepn_hear0 (c : Cfg) (link : Int) (e0 e1 : End) (n0 n1 : List Msg) (ev : Evt) (hm : c.mode = 1) (hk : ev.kind = 7) (hw : ev.who = 0) : step true ⟨c, [e0, e1], [n0, n1], link⟩ ev = hear1N0 c link e0 e1 n0 n1 := by
  obtain ⟨kind, who, at_, v, data⟩ := ev
  obtain ⟨mode, win, mps, mtu, tri⟩ := c
  dsimp only at *
  subst hm hk hw
  cases n0 with
  | nil => rfl
  | cons a l =>
    show hear1 ⟨⟨1, win, mps, mtu, tri⟩, [e0, e1], [a :: l, n1], link⟩ 0 = _
    simp only [hear1, netAt, List.getD_cons_zero, List.getD_cons_succ, hear1N0]
    cases frmRead a.bytes with
    | none => rfl
    | some f =>
      simp only [hearF, frameN0]
      by_cases h : f.kind = 1 ∨ f.kind = 2
      · rw [if_pos h]; simp only [h, if_true]; rfl
      · rw [if_neg h]; simp only [h, if_false]; rfl
theorem step_bend0 (c : Cfg) (link : Int) (e0 e1 : End) (n0 n1 : List Msg) (ev : Evt) (hk : ev.kind = 9) (hw : ev.who = 0) : step true ⟨c, [e0, e1], [n0, n1], link⟩ ev = ⟨c, [e0, e1], [n0, n1].set 0 (bendL n0 ev.at_ ev.v), link⟩ := by
  obtain ⟨kind, who, at_, v, data⟩ := ev
  dsimp only at *
  subst hk hw
  cases n0 <;> rfl
theorem step_move0 (c : Cfg) (link : Int) (e0 e1 : End) (n0 n1 : List Msg) (ev : Evt) (hk : ev.kind = 10) (hw : ev.who = 0) : step true ⟨c, [e0, e1], [n0, n1], link⟩ ev = ⟨c, [e0, e1], [[], []], 1 - link⟩ := by
  obtain ⟨kind, who, at_, v, data⟩ := ev
  dsimp only at *
  subst hk hw
  rfl
theorem step_inj0 (c : Cfg) (link : Int) (e0 e1 : End) (n0 n1 : List Msg) (ev : Evt) (hk : ev.kind = 11) (hw : ev.who = 0) : step true ⟨c, [e0, e1], [n0, n1], link⟩ ev = if n0.length < 30 ∧ ev.data.length ≤ 15 then ⟨c, [e0, e1], [n0, n1].set 0 (n0 ++ [⟨false, ev.data⟩]), link⟩ else ⟨c, [e0, e1], [n0, n1], link⟩ := by
  obtain ⟨kind, who, at_, v, data⟩ := ev
  dsimp only at *
  subst hk hw
  rfl
theorem stepn_put1 (c : Cfg) (link : Int) (e0 e1 : End) (n0 n1 : List Msg) (ev : Evt) (hm : c.mode = 1) (hk : ev.kind = 1) (hw : ev.who = 1) : step true ⟨c, [e0, e1], [n0, n1], link⟩ ev = if e1.put.length < 60 then ⟨c, [e0, e1].set 1 (putM c e1 ev.data), [n0, n1], link⟩ else ⟨c, [e0, e1], [n0, n1], link⟩ := by
  obtain ⟨kind, who, at_, v, data⟩ := ev
  obtain ⟨mode, win, mps, mtu, tri⟩ := c
  dsimp only at *
  subst hm hk hw
  rfl
theorem stepn_send1 (c : Cfg) (link : Int) (e0 e1 : End) (n0 n1 : List Msg) (ev : Evt) (hm : c.mode = 1) (hk : ev.kind = 2) (hw : ev.who = 1) : step true ⟨c, [e0, e1], [n0, n1], link⟩ ev = if n0.length < 30 then sayO ⟨c, [e0, e1].set 1 { e1 with tx := (txSend true c e1.tx e1.rx.expect).1 }, [n0, n1], link⟩ 1 (txSend true c e1.tx e1.rx.expect).2 else ⟨c, [e0, e1], [n0, n1], link⟩ := by
  obtain ⟨kind, who, at_, v, data⟩ := ev
  obtain ⟨mode, win, mps, mtu, tri⟩ := c
  dsimp only at *
  subst hm hk hw
  rfl
theorem stepn_tick1 (c : Cfg) (link : Int) (e0 e1 : End) (n0 n1 : List Msg) (ev : Evt) (hm : c.mode = 1) (hk : ev.kind = 3) (hw : ev.who = 1) : step true ⟨c, [e0, e1], [n0, n1], link⟩ ev = sayO ⟨c, [e0, e1].set 1 { e1 with tx := (txTick c e1.tx e1.rx.expect e1.rx.busy).1 }, [n0, n1], link⟩ 1 (txTick c e1.tx e1.rx.expect e1.rx.busy).2 := by
  obtain ⟨kind, who, at_, v, data⟩ := ev
  obtain ⟨mode, win, mps, mtu, tri⟩ := c
  dsimp only at *
  subst hm hk hw
  rfl
theorem stepn_say1 (c : Cfg) (link : Int) (e0 e1 : End) (n0 n1 : List Msg) (ev : Evt) (hm : c.mode = 1) (hk : ev.kind = 4 ∨ ev.kind = 5 ∨ ev.kind = 6) (hw : ev.who = 1) : step true ⟨c, [e0, e1], [n0, n1], link⟩ ev = if ev.kind = 4 then says ⟨c, [e0, e1].set 1 { e1 with rx := (rxBusy e1.rx (decide (ev.v = 1))).1 }, [n0, n1], link⟩ 1 (rxBusy e1.rx (decide (ev.v = 1))).2 else if ev.kind = 5 ∧ e1.rx.dead = false then say1 ⟨c, [e0, e1], [n0, n1], link⟩ 1 (rxAck e1.rx) else ⟨c, [e0, e1], [n0, n1], link⟩ := by
  obtain ⟨kind, who, at_, v, data⟩ := ev
  obtain ⟨mode, win, mps, mtu, tri⟩ := c
  dsimp only at *
  subst hm hw
  rcases hk with rfl | rfl | rfl
  · rfl
  · show (if e1.rx.dead = true then _ else _) = _
    cases e1.rx.dead <;> rfl
  · rfl
theorem stepn_hear1 (c : Cfg) (link : Int) (e0 e1 : End) (n0 n1 : List Msg) (ev : Evt) (hm : c.mode = 1) (hk : ev.kind = 7) (hw : ev.who = 1) : step true ⟨c, [e0, e1], [n0, n1], link⟩ ev = hear1N1 c link e0 e1 n0 n1 := by
  obtain ⟨kind, who, at_, v, data⟩ := ev
  obtain ⟨mode, win, mps, mtu, tri⟩ := c
  dsimp only at *
  subst hm hk hw
  cases n1 with
  | nil => rfl
  | cons a l =>
    show hear1 ⟨⟨1, win, mps, mtu, tri⟩, [e0, e1], [n0, a :: l], link⟩ 1 = _
    simp only [hear1, netAt, List.getD_cons_zero, List.getD_cons_succ, hear1N1]
    cases frmRead a.bytes with
    | none => rfl
    | some f =>
      simp only [hearF, frameN1]
      by_cases h : f.kind = 1 ∨ f.kind = 2
      · rw [if_pos h]; simp only [h, if_true]; rfl
      · rw [if_neg h]; simp only [h, if_false]; rfl
theorem step_bend1 (c : Cfg) (link : Int) (e0 e1 : End) (n0 n1 : List Msg) (ev : Evt) (hk : ev.kind = 9) (hw : ev.who = 1) : step true ⟨c, [e0, e1], [n0, n1], link⟩ ev = ⟨c, [e0, e1], [n0, n1].set 1 (bendL n1 ev.at_ ev.v), link⟩ := by
  obtain ⟨kind, who, at_, v, data⟩ := ev
  dsimp only at *
  subst hk hw
  cases n1 <;> rfl
theorem step_move1 (c : Cfg) (link : Int) (e0 e1 : End) (n0 n1 : List Msg) (ev : Evt) (hk : ev.kind = 10) (hw : ev.who = 1) : step true ⟨c, [e0, e1], [n0, n1], link⟩ ev = ⟨c, [e0, e1], [[], []], 1 - link⟩ := by
  obtain ⟨kind, who, at_, v, data⟩ := ev
  dsimp only at *
  subst hk hw
  rfl
theorem step_inj1 (c : Cfg) (link : Int) (e0 e1 : End) (n0 n1 : List Msg) (ev : Evt) (hk : ev.kind = 11) (hw : ev.who = 1) : step true ⟨c, [e0, e1], [n0, n1], link⟩ ev = if n1.length < 30 ∧ ev.data.length ≤ 15 then ⟨c, [e0, e1], [n0, n1].set 1 (n1 ++ [⟨false, ev.data⟩]), link⟩ else ⟨c, [e0, e1], [n0, n1], link⟩ := by
  obtain ⟨kind, who, at_, v, data⟩ := ev
  dsimp only at *
  subst hk hw
  rfl
theorem l9step_n0 (c : Cfg) (link : Int) (e0 e1 : End) (n0 n1 : List Msg) (m : WM) (ev : Evt) (v : Value) (z : Zc) (hv : By z ev.data v) (hd : ev.data.length ≤ 100000) (hR : WldR z e0 e1 n0 n1 m) (hW : WldI ⟨c, [e0, e1], [n0, n1], link⟩) (hm : c.mode = 1) (hw : ev.who = 0) (hk : 1 ≤ ev.kind ∧ ev.kind ≤ 8) :
    Spec Tryz.prog 61 [wldV c link m, vEvt ev v] z (wldA e0 e1 n0 n1 m) (WldH c (step true ⟨c, [e0, e1], [n0, n1], link⟩ ev)) := by
  have hI : EndI c e0 := hW.ends 0 (by omega)
  have hN : NetI n0 := hW.net 0 (by omega)
  have hNw : NetI n1 := hW.net 1 (by omega)
  have hp60 := hI.put.1
  have hn30 := hNw.1
  have hn30' := hN.1
  obtain ⟨kind, who, at_, vv, data⟩ := ev
  dsimp only at *
  subst hw
  obtain ⟨Av, kv, rfl, hkv, hBv, hrv⟩ := hv.form
  (refine spec_enter1 Tryz.func61 ic61_ok fr61_ok Tryz.ntmps61 ?_; simp only [seval, go_sem, ic61, fr61])
  ((try simp only [seval, go_sem]);repeat((with_reducible first|refine vJ ?_|refine vK ?_);try simp only [seval, go_sem]))
  (try with_reducible refine callM.toT ?_); refine callP (in_s 0 0 1 z) rfl rfl ?_; rintro _ _ - ⟨rfl, rfl⟩; ((try simp only [seval, go_sem]);repeat((with_reducible first|refine vJ ?_|refine vK ?_);try simp only [seval, go_sem]))
  simp only [seval, go_sem, show inB 0 0 1 = true from rfl, show inB 1 0 1 = true from rfl]
  ((try simp only [seval, go_sem]);repeat((with_reducible first|refine vJ ?_|refine vK ?_);try simp only [seval, go_sem]))
  have hk8 : kind = 1 ∨ kind = 2 ∨ kind = 3 ∨ kind = 4 ∨ kind = 5 ∨ kind = 6 ∨ kind = 7 ∨ kind = 8 := by omega
  rcases hk8 with rfl | rfl | rfl | rfl | rfl | rfl | rfl | rfl
  · simp only [seval, go_sem]
    ((try simp only [seval, go_sem]);repeat((with_reducible first|refine vJ ?_|refine vK ?_);try simp only [seval, go_sem]))
    by_cases h60 : e0.put.length < 60
    · (try with_reducible refine callM.toT ?_); refine callW 1000 (l9put_n0 c link e0 e1 n0 n1 m data (.slice Av data.length kv) z hR hI hv hd hm h60) rfl rfl rfl rfl ?_; rintro u z1 A' hz1 ⟨e', he', hH⟩; ((try simp only [seval, go_sem]);repeat((with_reducible first|refine vJ ?_|refine vK ?_);try simp only [seval, go_sem]))
      obtain ⟨f0, f1, g0, g1, m', hw1, hw2, hw3, rfl, rfl, hR3⟩ := hH
      (((try simp only [seval, go_sem]);repeat((with_reducible first|refine vJ ?_|refine vK ?_);try simp only [seval, go_sem])); refine FinV.own 1000 rfl ?_; simp only [finE, finS, gt, look, SV.toV, SC.toV, allV, tupV, zq1, zq2, zq3, zq4, Nat.reduceAdd, Nat.reduceEqDiff, reduceCtorEq, if_true, if_false, reduceIte, Nat.succ_ne_self, true_and, zq5, zq7, zq8])
      rw [stepn_put0 c link e0 e1 n0 n1 _ hm rfl rfl, if_pos h60]
      subst he'
      exact ⟨f0, f1, g0, g1, m', hw1, hw2, hw3, rfl, rfl, hR3⟩
    · (try with_reducible refine callM.toT ?_); refine callW 1000 (l9put_f0 c link e0 e1 n0 n1 m (.slice Av data.length kv) z hR data hv (by omega)) rfl rfl rfl rfl ?_; rintro u z1 A' hz1 ⟨f0, f1, g0, g1, m', hw1, hw2, hw3, rfl, rfl, hR3⟩; ((try simp only [seval, go_sem]);repeat((with_reducible first|refine vJ ?_|refine vK ?_);try simp only [seval, go_sem]))
      (((try simp only [seval, go_sem]);repeat((with_reducible first|refine vJ ?_|refine vK ?_);try simp only [seval, go_sem])); refine FinV.own 1000 rfl ?_; simp only [finE, finS, gt, look, SV.toV, SC.toV, allV, tupV, zq1, zq2, zq3, zq4, Nat.reduceAdd, Nat.reduceEqDiff, reduceCtorEq, if_true, if_false, reduceIte, Nat.succ_ne_self, true_and, zq5, zq7, zq8])
      rw [stepn_put0 c link e0 e1 n0 n1 _ hm rfl rfl, if_neg h60]
      exact ⟨f0, f1, g0, g1, m', hw1, hw2, hw3, rfl, rfl, hR3⟩
  · simp only [seval, go_sem]
    ((try simp only [seval, go_sem]);repeat((with_reducible first|refine vJ ?_|refine vK ?_);try simp only [seval, go_sem]))
    (try with_reducible refine callM.toT ?_); refine callW 1000 (l9send_n0 c link e0 e1 n0 n1 m z hR hI hm hn30) rfl rfl rfl rfl ?_; rintro u z1 A' hz1 ⟨f0, f1, g0, g1, m', hw1, hw2, hw3, rfl, rfl, hR3⟩; ((try simp only [seval, go_sem]);repeat((with_reducible first|refine vJ ?_|refine vK ?_);try simp only [seval, go_sem]))
    (((try simp only [seval, go_sem]);repeat((with_reducible first|refine vJ ?_|refine vK ?_);try simp only [seval, go_sem])); refine FinV.own 1000 rfl ?_; simp only [finE, finS, gt, look, SV.toV, SC.toV, allV, tupV, zq1, zq2, zq3, zq4, Nat.reduceAdd, Nat.reduceEqDiff, reduceCtorEq, if_true, if_false, reduceIte, Nat.succ_ne_self, true_and, zq5, zq7, zq8])
    rw [stepn_send0 c link e0 e1 n0 n1 _ hm rfl rfl]
    exact ⟨f0, f1, g0, g1, m', hw1, hw2, hw3, rfl, rfl, hR3⟩
  · simp only [seval, go_sem]
    ((try simp only [seval, go_sem]);repeat((with_reducible first|refine vJ ?_|refine vK ?_);try simp only [seval, go_sem]))
    (try with_reducible refine callM.toT ?_); refine callW 1000 (l9tick_n0 c link e0 e1 n0 n1 m z hR hI hm hn30) rfl rfl rfl rfl ?_; rintro u z1 A' hz1 ⟨f0, f1, g0, g1, m', hw1, hw2, hw3, rfl, rfl, hR3⟩; ((try simp only [seval, go_sem]);repeat((with_reducible first|refine vJ ?_|refine vK ?_);try simp only [seval, go_sem]))
    (((try simp only [seval, go_sem]);repeat((with_reducible first|refine vJ ?_|refine vK ?_);try simp only [seval, go_sem])); refine FinV.own 1000 rfl ?_; simp only [finE, finS, gt, look, SV.toV, SC.toV, allV, tupV, zq1, zq2, zq3, zq4, Nat.reduceAdd, Nat.reduceEqDiff, reduceCtorEq, if_true, if_false, reduceIte, Nat.succ_ne_self, true_and, zq5, zq7, zq8])
    rw [stepn_tick0 c link e0 e1 n0 n1 _ hm rfl rfl]
    exact ⟨f0, f1, g0, g1, m', hw1, hw2, hw3, rfl, rfl, hR3⟩
  · simp only [seval, go_sem]
    ((try simp only [seval, go_sem]);repeat((with_reducible first|refine vJ ?_|refine vK ?_);try simp only [seval, go_sem]))
    (try with_reducible refine callM.toT ?_); refine callW 1000 (l9say_n0 c link e0 e1 n0 n1 m ⟨4, 0, at_, vv, data⟩ (.slice Av data.length kv) z hv hR hI hm (by omega) (by omega) rfl (.inl rfl)) rfl rfl rfl rfl ?_; rintro u z1 A' hz1 ⟨f0, f1, g0, g1, m', hw1, hw2, hw3, rfl, rfl, hR3⟩; ((try simp only [seval, go_sem]);repeat((with_reducible first|refine vJ ?_|refine vK ?_);try simp only [seval, go_sem]))
    (((try simp only [seval, go_sem]);repeat((with_reducible first|refine vJ ?_|refine vK ?_);try simp only [seval, go_sem])); refine FinV.own 1000 rfl ?_; simp only [finE, finS, gt, look, SV.toV, SC.toV, allV, tupV, zq1, zq2, zq3, zq4, Nat.reduceAdd, Nat.reduceEqDiff, reduceCtorEq, if_true, if_false, reduceIte, Nat.succ_ne_self, true_and, zq5, zq7, zq8])
    rw [stepn_say0 c link e0 e1 n0 n1 _ hm (.inl rfl) rfl]
    first
      | exact ⟨f0, f1, g0, g1, m', hw1, hw2, hw3, rfl, rfl, hR3⟩
      | (simp only [seval, if_false, true_and] at hw1 hw2 hw3 ⊢; exact ⟨f0, f1, g0, g1, m', hw1, hw2, hw3, rfl, rfl, hR3⟩)
  · simp only [seval, go_sem]
    ((try simp only [seval, go_sem]);repeat((with_reducible first|refine vJ ?_|refine vK ?_);try simp only [seval, go_sem]))
    (try with_reducible refine callM.toT ?_); refine callW 1000 (l9say_n0 c link e0 e1 n0 n1 m ⟨5, 0, at_, vv, data⟩ (.slice Av data.length kv) z hv hR hI hm (by omega) (by omega) rfl (.inr (.inl rfl))) rfl rfl rfl rfl ?_; rintro u z1 A' hz1 ⟨f0, f1, g0, g1, m', hw1, hw2, hw3, rfl, rfl, hR3⟩; ((try simp only [seval, go_sem]);repeat((with_reducible first|refine vJ ?_|refine vK ?_);try simp only [seval, go_sem]))
    (((try simp only [seval, go_sem]);repeat((with_reducible first|refine vJ ?_|refine vK ?_);try simp only [seval, go_sem])); refine FinV.own 1000 rfl ?_; simp only [finE, finS, gt, look, SV.toV, SC.toV, allV, tupV, zq1, zq2, zq3, zq4, Nat.reduceAdd, Nat.reduceEqDiff, reduceCtorEq, if_true, if_false, reduceIte, Nat.succ_ne_self, true_and, zq5, zq7, zq8])
    rw [stepn_say0 c link e0 e1 n0 n1 _ hm (.inr (.inl rfl)) rfl]
    first
      | exact ⟨f0, f1, g0, g1, m', hw1, hw2, hw3, rfl, rfl, hR3⟩
      | (simp only [seval, if_false, true_and] at hw1 hw2 hw3 ⊢; exact ⟨f0, f1, g0, g1, m', hw1, hw2, hw3, rfl, rfl, hR3⟩)
  · simp only [seval, go_sem]
    ((try simp only [seval, go_sem]);repeat((with_reducible first|refine vJ ?_|refine vK ?_);try simp only [seval, go_sem]))
    (try with_reducible refine callM.toT ?_); refine callW 1000 (l9say_n0 c link e0 e1 n0 n1 m ⟨6, 0, at_, vv, data⟩ (.slice Av data.length kv) z hv hR hI hm (by omega) (by omega) rfl (.inr (.inr rfl))) rfl rfl rfl rfl ?_; rintro u z1 A' hz1 ⟨f0, f1, g0, g1, m', hw1, hw2, hw3, rfl, rfl, hR3⟩; ((try simp only [seval, go_sem]);repeat((with_reducible first|refine vJ ?_|refine vK ?_);try simp only [seval, go_sem]))
    (((try simp only [seval, go_sem]);repeat((with_reducible first|refine vJ ?_|refine vK ?_);try simp only [seval, go_sem])); refine FinV.own 1000 rfl ?_; simp only [finE, finS, gt, look, SV.toV, SC.toV, allV, tupV, zq1, zq2, zq3, zq4, Nat.reduceAdd, Nat.reduceEqDiff, reduceCtorEq, if_true, if_false, reduceIte, Nat.succ_ne_self, true_and, zq5, zq7, zq8])
    rw [stepn_say0 c link e0 e1 n0 n1 _ hm (.inr (.inr rfl)) rfl]
    first
      | exact ⟨f0, f1, g0, g1, m', hw1, hw2, hw3, rfl, rfl, hR3⟩
      | (simp only [seval, if_false, true_and] at hw1 hw2 hw3 ⊢; exact ⟨f0, f1, g0, g1, m', hw1, hw2, hw3, rfl, rfl, hR3⟩)
  · simp only [seval, go_sem]
    ((try simp only [seval, go_sem]);repeat((with_reducible first|refine vJ ?_|refine vK ?_);try simp only [seval, go_sem]))
    (try with_reducible refine callM.toT ?_); refine callW 1000 (l9net_n0 c link e0 e1 n0 n1 m ⟨7, 0, at_, vv, data⟩ (.slice Av data.length kv) z hv hR hI hN hNw hm rfl (.inl rfl)) rfl rfl rfl rfl ?_; rintro u z1 A' hz1 ⟨f0, f1, g0, g1, m', hw1, hw2, hw3, rfl, rfl, hR3⟩; ((try simp only [seval, go_sem]);repeat((with_reducible first|refine vJ ?_|refine vK ?_);try simp only [seval, go_sem]))
    (((try simp only [seval, go_sem]);repeat((with_reducible first|refine vJ ?_|refine vK ?_);try simp only [seval, go_sem])); refine FinV.own 1000 rfl ?_; simp only [finE, finS, gt, look, SV.toV, SC.toV, allV, tupV, zq1, zq2, zq3, zq4, Nat.reduceAdd, Nat.reduceEqDiff, reduceCtorEq, if_true, if_false, reduceIte, Nat.succ_ne_self, true_and, zq5, zq7, zq8])
    rw [stepn_hear0 c link e0 e1 n0 n1 _ hm rfl rfl]
    exact ⟨f0, f1, g0, g1, m', hw1, hw2, hw3, rfl, rfl, hR3⟩
  · simp only [seval, go_sem]
    ((try simp only [seval, go_sem]);repeat((with_reducible first|refine vJ ?_|refine vK ?_);try simp only [seval, go_sem]))
    (try with_reducible refine callM.toT ?_); refine callW 1000 (l9net_n0 c link e0 e1 n0 n1 m ⟨8, 0, at_, vv, data⟩ (.slice Av data.length kv) z hv hR hI hN hNw hm rfl (.inr rfl)) rfl rfl rfl rfl ?_; rintro u z1 A' hz1 ⟨f0, f1, g0, g1, m', hw1, hw2, hw3, rfl, rfl, hR3⟩; ((try simp only [seval, go_sem]);repeat((with_reducible first|refine vJ ?_|refine vK ?_);try simp only [seval, go_sem]))
    (((try simp only [seval, go_sem]);repeat((with_reducible first|refine vJ ?_|refine vK ?_);try simp only [seval, go_sem])); refine FinV.own 1000 rfl ?_; simp only [finE, finS, gt, look, SV.toV, SC.toV, allV, tupV, zq1, zq2, zq3, zq4, Nat.reduceAdd, Nat.reduceEqDiff, reduceCtorEq, if_true, if_false, reduceIte, Nat.succ_ne_self, true_and, zq5, zq7, zq8])
    rw [step_lose0 c link e0 e1 n0 n1 _ rfl rfl]
    exact ⟨f0, f1, g0, g1, m', hw1, hw2, hw3, rfl, rfl, hR3⟩
theorem l9step_b0 (c : Cfg) (link : Int) (e0 e1 : End) (n0 n1 : List Msg) (m : WM) (ev : Evt) (v : Value) (z : Zc) (hv : By z ev.data v) (hR : WldR z e0 e1 n0 n1 m) (hW : WldI ⟨c, [e0, e1], [n0, n1], link⟩) (hw : ev.who = 0) (hk : ev.kind = 9) :
    Spec Tryz.prog 61 [wldV c link m, vEvt ev v] z (wldA e0 e1 n0 n1 m) (WldH c (step true ⟨c, [e0, e1], [n0, n1], link⟩ ev)) := by
  have hN : NetI n0 := hW.net 0 (by omega)
  rw [step_bend0 c link e0 e1 n0 n1 ev hk hw]
  obtain ⟨kind, who, at_, vv, data⟩ := ev
  dsimp only at *
  subst hw
  subst hk
  obtain ⟨Av, kv, rfl, hkv, hBv, hrv⟩ := hv.form
  (refine spec_enter1 Tryz.func61 ic61_ok fr61_ok Tryz.ntmps61 ?_; simp only [seval, go_sem, ic61, fr61])
  ((try simp only [seval, go_sem]);repeat((with_reducible first|refine vJ ?_|refine vK ?_);try simp only [seval, go_sem]))
  (try with_reducible refine callM.toT ?_); refine callP (in_s 0 0 1 z) rfl rfl ?_; rintro _ _ - ⟨rfl, rfl⟩; ((try simp only [seval, go_sem]);repeat((with_reducible first|refine vJ ?_|refine vK ?_);try simp only [seval, go_sem]))
  simp only [seval, go_sem, show inB 0 0 1 = true from rfl, show inB 1 0 1 = true from rfl]
  ((try simp only [seval, go_sem]);repeat((with_reducible first|refine vJ ?_|refine vK ?_);try simp only [seval, go_sem]))
  (try with_reducible refine callM.toT ?_); refine callW 1000 (l9bend0 c link e0 e1 n0 n1 m ⟨9, 0, at_, vv, data⟩ (.slice Av data.length kv) z hv hR hN rfl rfl) rfl rfl rfl rfl ?_; rintro u z1 A' hz1 ⟨f0, f1, g0, g1, m', hw1, hw2, hw3, rfl, rfl, hR3⟩; ((try simp only [seval, go_sem]);repeat((with_reducible first|refine vJ ?_|refine vK ?_);try simp only [seval, go_sem]))
  (((try simp only [seval, go_sem]);repeat((with_reducible first|refine vJ ?_|refine vK ?_);try simp only [seval, go_sem])); refine FinV.own 1000 rfl ?_; simp only [finE, finS, gt, look, SV.toV, SC.toV, allV, tupV, zq1, zq2, zq3, zq4, Nat.reduceAdd, Nat.reduceEqDiff, reduceCtorEq, if_true, if_false, reduceIte, Nat.succ_ne_self, true_and, zq5, zq7, zq8])
  exact ⟨f0, f1, g0, g1, m', hw1, hw2, hw3, rfl, rfl, hR3⟩
theorem l9step_10 (c : Cfg) (link : Int) (e0 e1 : End) (n0 n1 : List Msg) (m : WM) (ev : Evt) (v : Value) (z : Zc) (hv : By z ev.data v) (hd : ev.data.length ≤ 100000) (hR : WldR z e0 e1 n0 n1 m) (hW : WldI ⟨c, [e0, e1], [n0, n1], link⟩) (hm : c.mode = 1) (hw : ev.who = 0) (hk : 1 ≤ ev.kind ∧ ev.kind ≤ 11) :
    Spec Tryz.prog 61 [wldV c link m, vEvt ev v] z (wldA e0 e1 n0 n1 m) (WldH c (step true ⟨c, [e0, e1], [n0, n1], link⟩ ev)) := by
  have hN : NetI n0 := hW.net 0 (by omega)
  by_cases h8 : ev.kind ≤ 8
  · exact l9step_n0 c link e0 e1 n0 n1 m ev v z hv hd hR hW hm hw ⟨hk.1, h8⟩
  · have h3 : ev.kind = 9 ∨ ev.kind = 10 ∨ ev.kind = 11 := by omega
    rcases h3 with h | h | h
    · exact l9step_b0 c link e0 e1 n0 n1 m ev v z hv hR hW hw h
    · rw [step_move0 c link e0 e1 n0 n1 ev h hw]
      exact l9move0 c link e0 e1 n0 n1 m ev v z hv hR hW.link hw h
    · rw [step_inj0 c link e0 e1 n0 n1 ev h hw]
      exact l9inj0 c link e0 e1 n0 n1 m ev v z hv (by omega) hR hN.1 hw h
theorem l9step_n1 (c : Cfg) (link : Int) (e0 e1 : End) (n0 n1 : List Msg) (m : WM) (ev : Evt) (v : Value) (z : Zc) (hv : By z ev.data v) (hd : ev.data.length ≤ 100000) (hR : WldR z e0 e1 n0 n1 m) (hW : WldI ⟨c, [e0, e1], [n0, n1], link⟩) (hm : c.mode = 1) (hw : ev.who = 1) (hk : 1 ≤ ev.kind ∧ ev.kind ≤ 8) :
    Spec Tryz.prog 61 [wldV c link m, vEvt ev v] z (wldA e0 e1 n0 n1 m) (WldH c (step true ⟨c, [e0, e1], [n0, n1], link⟩ ev)) := by
  have hI : EndI c e1 := hW.ends 1 (by omega)
  have hN : NetI n1 := hW.net 1 (by omega)
  have hNw : NetI n0 := hW.net 0 (by omega)
  have hp60 := hI.put.1
  have hn30 := hNw.1
  have hn30' := hN.1
  obtain ⟨kind, who, at_, vv, data⟩ := ev
  dsimp only at *
  subst hw
  obtain ⟨Av, kv, rfl, hkv, hBv, hrv⟩ := hv.form
  (refine spec_enter1 Tryz.func61 ic61_ok fr61_ok Tryz.ntmps61 ?_; simp only [seval, go_sem, ic61, fr61])
  ((try simp only [seval, go_sem]);repeat((with_reducible first|refine vJ ?_|refine vK ?_);try simp only [seval, go_sem]))
  (try with_reducible refine callM.toT ?_); refine callP (in_s 1 0 1 z) rfl rfl ?_; rintro _ _ - ⟨rfl, rfl⟩; ((try simp only [seval, go_sem]);repeat((with_reducible first|refine vJ ?_|refine vK ?_);try simp only [seval, go_sem]))
  simp only [seval, go_sem, show inB 0 0 1 = true from rfl, show inB 1 0 1 = true from rfl]
  ((try simp only [seval, go_sem]);repeat((with_reducible first|refine vJ ?_|refine vK ?_);try simp only [seval, go_sem]))
  have hk8 : kind = 1 ∨ kind = 2 ∨ kind = 3 ∨ kind = 4 ∨ kind = 5 ∨ kind = 6 ∨ kind = 7 ∨ kind = 8 := by omega
  rcases hk8 with rfl | rfl | rfl | rfl | rfl | rfl | rfl | rfl
  · simp only [seval, go_sem]
    ((try simp only [seval, go_sem]);repeat((with_reducible first|refine vJ ?_|refine vK ?_);try simp only [seval, go_sem]))
    by_cases h60 : e1.put.length < 60
    · (try with_reducible refine callM.toT ?_); refine callW 1000 (l9put_n1 c link e0 e1 n0 n1 m data (.slice Av data.length kv) z hR hI hv hd hm h60) rfl rfl rfl rfl ?_; rintro u z1 A' hz1 ⟨e', he', hH⟩; ((try simp only [seval, go_sem]);repeat((with_reducible first|refine vJ ?_|refine vK ?_);try simp only [seval, go_sem]))
      obtain ⟨f0, f1, g0, g1, m', hw1, hw2, hw3, rfl, rfl, hR3⟩ := hH
      (((try simp only [seval, go_sem]);repeat((with_reducible first|refine vJ ?_|refine vK ?_);try simp only [seval, go_sem])); refine FinV.own 1000 rfl ?_; simp only [finE, finS, gt, look, SV.toV, SC.toV, allV, tupV, zq1, zq2, zq3, zq4, Nat.reduceAdd, Nat.reduceEqDiff, reduceCtorEq, if_true, if_false, reduceIte, Nat.succ_ne_self, true_and, zq5, zq7, zq8])
      rw [stepn_put1 c link e0 e1 n0 n1 _ hm rfl rfl, if_pos h60]
      subst he'
      exact ⟨f0, f1, g0, g1, m', hw1, hw2, hw3, rfl, rfl, hR3⟩
    · (try with_reducible refine callM.toT ?_); refine callW 1000 (l9put_f1 c link e0 e1 n0 n1 m (.slice Av data.length kv) z hR data hv (by omega)) rfl rfl rfl rfl ?_; rintro u z1 A' hz1 ⟨f0, f1, g0, g1, m', hw1, hw2, hw3, rfl, rfl, hR3⟩; ((try simp only [seval, go_sem]);repeat((with_reducible first|refine vJ ?_|refine vK ?_);try simp only [seval, go_sem]))
      (((try simp only [seval, go_sem]);repeat((with_reducible first|refine vJ ?_|refine vK ?_);try simp only [seval, go_sem])); refine FinV.own 1000 rfl ?_; simp only [finE, finS, gt, look, SV.toV, SC.toV, allV, tupV, zq1, zq2, zq3, zq4, Nat.reduceAdd, Nat.reduceEqDiff, reduceCtorEq, if_true, if_false, reduceIte, Nat.succ_ne_self, true_and, zq5, zq7, zq8])
      rw [stepn_put1 c link e0 e1 n0 n1 _ hm rfl rfl, if_neg h60]
      exact ⟨f0, f1, g0, g1, m', hw1, hw2, hw3, rfl, rfl, hR3⟩
  · simp only [seval, go_sem]
    ((try simp only [seval, go_sem]);repeat((with_reducible first|refine vJ ?_|refine vK ?_);try simp only [seval, go_sem]))
    (try with_reducible refine callM.toT ?_); refine callW 1000 (l9send_n1 c link e0 e1 n0 n1 m z hR hI hm hn30) rfl rfl rfl rfl ?_; rintro u z1 A' hz1 ⟨f0, f1, g0, g1, m', hw1, hw2, hw3, rfl, rfl, hR3⟩; ((try simp only [seval, go_sem]);repeat((with_reducible first|refine vJ ?_|refine vK ?_);try simp only [seval, go_sem]))
    (((try simp only [seval, go_sem]);repeat((with_reducible first|refine vJ ?_|refine vK ?_);try simp only [seval, go_sem])); refine FinV.own 1000 rfl ?_; simp only [finE, finS, gt, look, SV.toV, SC.toV, allV, tupV, zq1, zq2, zq3, zq4, Nat.reduceAdd, Nat.reduceEqDiff, reduceCtorEq, if_true, if_false, reduceIte, Nat.succ_ne_self, true_and, zq5, zq7, zq8])
    rw [stepn_send1 c link e0 e1 n0 n1 _ hm rfl rfl]
    exact ⟨f0, f1, g0, g1, m', hw1, hw2, hw3, rfl, rfl, hR3⟩
  · simp only [seval, go_sem]
    ((try simp only [seval, go_sem]);repeat((with_reducible first|refine vJ ?_|refine vK ?_);try simp only [seval, go_sem]))
    (try with_reducible refine callM.toT ?_); refine callW 1000 (l9tick_n1 c link e0 e1 n0 n1 m z hR hI hm hn30) rfl rfl rfl rfl ?_; rintro u z1 A' hz1 ⟨f0, f1, g0, g1, m', hw1, hw2, hw3, rfl, rfl, hR3⟩; ((try simp only [seval, go_sem]);repeat((with_reducible first|refine vJ ?_|refine vK ?_);try simp only [seval, go_sem]))
    (((try simp only [seval, go_sem]);repeat((with_reducible first|refine vJ ?_|refine vK ?_);try simp only [seval, go_sem])); refine FinV.own 1000 rfl ?_; simp only [finE, finS, gt, look, SV.toV, SC.toV, allV, tupV, zq1, zq2, zq3, zq4, Nat.reduceAdd, Nat.reduceEqDiff, reduceCtorEq, if_true, if_false, reduceIte, Nat.succ_ne_self, true_and, zq5, zq7, zq8])
    rw [stepn_tick1 c link e0 e1 n0 n1 _ hm rfl rfl]
    exact ⟨f0, f1, g0, g1, m', hw1, hw2, hw3, rfl, rfl, hR3⟩
  · simp only [seval, go_sem]
    ((try simp only [seval, go_sem]);repeat((with_reducible first|refine vJ ?_|refine vK ?_);try simp only [seval, go_sem]))
    (try with_reducible refine callM.toT ?_); refine callW 1000 (l9say_n1 c link e0 e1 n0 n1 m ⟨4, 1, at_, vv, data⟩ (.slice Av data.length kv) z hv hR hI hm (by omega) (by omega) rfl (.inl rfl)) rfl rfl rfl rfl ?_; rintro u z1 A' hz1 ⟨f0, f1, g0, g1, m', hw1, hw2, hw3, rfl, rfl, hR3⟩; ((try simp only [seval, go_sem]);repeat((with_reducible first|refine vJ ?_|refine vK ?_);try simp only [seval, go_sem]))
    (((try simp only [seval, go_sem]);repeat((with_reducible first|refine vJ ?_|refine vK ?_);try simp only [seval, go_sem])); refine FinV.own 1000 rfl ?_; simp only [finE, finS, gt, look, SV.toV, SC.toV, allV, tupV, zq1, zq2, zq3, zq4, Nat.reduceAdd, Nat.reduceEqDiff, reduceCtorEq, if_true, if_false, reduceIte, Nat.succ_ne_self, true_and, zq5, zq7, zq8])
    rw [stepn_say1 c link e0 e1 n0 n1 _ hm (.inl rfl) rfl]
    first
      | exact ⟨f0, f1, g0, g1, m', hw1, hw2, hw3, rfl, rfl, hR3⟩
      | (simp only [seval, if_false, true_and] at hw1 hw2 hw3 ⊢; exact ⟨f0, f1, g0, g1, m', hw1, hw2, hw3, rfl, rfl, hR3⟩)
  · simp only [seval, go_sem]
    ((try simp only [seval, go_sem]);repeat((with_reducible first|refine vJ ?_|refine vK ?_);try simp only [seval, go_sem]))
    (try with_reducible refine callM.toT ?_); refine callW 1000 (l9say_n1 c link e0 e1 n0 n1 m ⟨5, 1, at_, vv, data⟩ (.slice Av data.length kv) z hv hR hI hm (by omega) (by omega) rfl (.inr (.inl rfl))) rfl rfl rfl rfl ?_; rintro u z1 A' hz1 ⟨f0, f1, g0, g1, m', hw1, hw2, hw3, rfl, rfl, hR3⟩; ((try simp only [seval, go_sem]);repeat((with_reducible first|refine vJ ?_|refine vK ?_);try simp only [seval, go_sem]))
    (((try simp only [seval, go_sem]);repeat((with_reducible first|refine vJ ?_|refine vK ?_);try simp only [seval, go_sem])); refine FinV.own 1000 rfl ?_; simp only [finE, finS, gt, look, SV.toV, SC.toV, allV, tupV, zq1, zq2, zq3, zq4, Nat.reduceAdd, Nat.reduceEqDiff, reduceCtorEq, if_true, if_false, reduceIte, Nat.succ_ne_self, true_and, zq5, zq7, zq8])
    rw [stepn_say1 c link e0 e1 n0 n1 _ hm (.inr (.inl rfl)) rfl]
    first
      | exact ⟨f0, f1, g0, g1, m', hw1, hw2, hw3, rfl, rfl, hR3⟩
      | (simp only [seval, if_false, true_and] at hw1 hw2 hw3 ⊢; exact ⟨f0, f1, g0, g1, m', hw1, hw2, hw3, rfl, rfl, hR3⟩)
  · simp only [seval, go_sem]
    ((try simp only [seval, go_sem]);repeat((with_reducible first|refine vJ ?_|refine vK ?_);try simp only [seval, go_sem]))
    (try with_reducible refine callM.toT ?_); refine callW 1000 (l9say_n1 c link e0 e1 n0 n1 m ⟨6, 1, at_, vv, data⟩ (.slice Av data.length kv) z hv hR hI hm (by omega) (by omega) rfl (.inr (.inr rfl))) rfl rfl rfl rfl ?_; rintro u z1 A' hz1 ⟨f0, f1, g0, g1, m', hw1, hw2, hw3, rfl, rfl, hR3⟩; ((try simp only [seval, go_sem]);repeat((with_reducible first|refine vJ ?_|refine vK ?_);try simp only [seval, go_sem]))
    (((try simp only [seval, go_sem]);repeat((with_reducible first|refine vJ ?_|refine vK ?_);try simp only [seval, go_sem])); refine FinV.own 1000 rfl ?_; simp only [finE, finS, gt, look, SV.toV, SC.toV, allV, tupV, zq1, zq2, zq3, zq4, Nat.reduceAdd, Nat.reduceEqDiff, reduceCtorEq, if_true, if_false, reduceIte, Nat.succ_ne_self, true_and, zq5, zq7, zq8])
    rw [stepn_say1 c link e0 e1 n0 n1 _ hm (.inr (.inr rfl)) rfl]
    first
      | exact ⟨f0, f1, g0, g1, m', hw1, hw2, hw3, rfl, rfl, hR3⟩
      | (simp only [seval, if_false, true_and] at hw1 hw2 hw3 ⊢; exact ⟨f0, f1, g0, g1, m', hw1, hw2, hw3, rfl, rfl, hR3⟩)
  · simp only [seval, go_sem]
    ((try simp only [seval, go_sem]);repeat((with_reducible first|refine vJ ?_|refine vK ?_);try simp only [seval, go_sem]))
    (try with_reducible refine callM.toT ?_); refine callW 1000 (l9net_n1 c link e0 e1 n0 n1 m ⟨7, 1, at_, vv, data⟩ (.slice Av data.length kv) z hv hR hI hN hNw hm rfl (.inl rfl)) rfl rfl rfl rfl ?_; rintro u z1 A' hz1 ⟨f0, f1, g0, g1, m', hw1, hw2, hw3, rfl, rfl, hR3⟩; ((try simp only [seval, go_sem]);repeat((with_reducible first|refine vJ ?_|refine vK ?_);try simp only [seval, go_sem]))
    (((try simp only [seval, go_sem]);repeat((with_reducible first|refine vJ ?_|refine vK ?_);try simp only [seval, go_sem])); refine FinV.own 1000 rfl ?_; simp only [finE, finS, gt, look, SV.toV, SC.toV, allV, tupV, zq1, zq2, zq3, zq4, Nat.reduceAdd, Nat.reduceEqDiff, reduceCtorEq, if_true, if_false, reduceIte, Nat.succ_ne_self, true_and, zq5, zq7, zq8])
    rw [stepn_hear1 c link e0 e1 n0 n1 _ hm rfl rfl]
    exact ⟨f0, f1, g0, g1, m', hw1, hw2, hw3, rfl, rfl, hR3⟩
  · simp only [seval, go_sem]
    ((try simp only [seval, go_sem]);repeat((with_reducible first|refine vJ ?_|refine vK ?_);try simp only [seval, go_sem]))
    (try with_reducible refine callM.toT ?_); refine callW 1000 (l9net_n1 c link e0 e1 n0 n1 m ⟨8, 1, at_, vv, data⟩ (.slice Av data.length kv) z hv hR hI hN hNw hm rfl (.inr rfl)) rfl rfl rfl rfl ?_; rintro u z1 A' hz1 ⟨f0, f1, g0, g1, m', hw1, hw2, hw3, rfl, rfl, hR3⟩; ((try simp only [seval, go_sem]);repeat((with_reducible first|refine vJ ?_|refine vK ?_);try simp only [seval, go_sem]))
    (((try simp only [seval, go_sem]);repeat((with_reducible first|refine vJ ?_|refine vK ?_);try simp only [seval, go_sem])); refine FinV.own 1000 rfl ?_; simp only [finE, finS, gt, look, SV.toV, SC.toV, allV, tupV, zq1, zq2, zq3, zq4, Nat.reduceAdd, Nat.reduceEqDiff, reduceCtorEq, if_true, if_false, reduceIte, Nat.succ_ne_self, true_and, zq5, zq7, zq8])
    rw [step_lose1 c link e0 e1 n0 n1 _ rfl rfl]
    exact ⟨f0, f1, g0, g1, m', hw1, hw2, hw3, rfl, rfl, hR3⟩
theorem l9step_b1 (c : Cfg) (link : Int) (e0 e1 : End) (n0 n1 : List Msg) (m : WM) (ev : Evt) (v : Value) (z : Zc) (hv : By z ev.data v) (hR : WldR z e0 e1 n0 n1 m) (hW : WldI ⟨c, [e0, e1], [n0, n1], link⟩) (hw : ev.who = 1) (hk : ev.kind = 9) :
    Spec Tryz.prog 61 [wldV c link m, vEvt ev v] z (wldA e0 e1 n0 n1 m) (WldH c (step true ⟨c, [e0, e1], [n0, n1], link⟩ ev)) := by
  have hN : NetI n1 := hW.net 1 (by omega)
  rw [step_bend1 c link e0 e1 n0 n1 ev hk hw]
  obtain ⟨kind, who, at_, vv, data⟩ := ev
  dsimp only at *
  subst hw
  subst hk
  obtain ⟨Av, kv, rfl, hkv, hBv, hrv⟩ := hv.form
  (refine spec_enter1 Tryz.func61 ic61_ok fr61_ok Tryz.ntmps61 ?_; simp only [seval, go_sem, ic61, fr61])
  ((try simp only [seval, go_sem]);repeat((with_reducible first|refine vJ ?_|refine vK ?_);try simp only [seval, go_sem]))
  (try with_reducible refine callM.toT ?_); refine callP (in_s 1 0 1 z) rfl rfl ?_; rintro _ _ - ⟨rfl, rfl⟩; ((try simp only [seval, go_sem]);repeat((with_reducible first|refine vJ ?_|refine vK ?_);try simp only [seval, go_sem]))
  simp only [seval, go_sem, show inB 0 0 1 = true from rfl, show inB 1 0 1 = true from rfl]
  ((try simp only [seval, go_sem]);repeat((with_reducible first|refine vJ ?_|refine vK ?_);try simp only [seval, go_sem]))
  (try with_reducible refine callM.toT ?_); refine callW 1000 (l9bend1 c link e0 e1 n0 n1 m ⟨9, 1, at_, vv, data⟩ (.slice Av data.length kv) z hv hR hN rfl rfl) rfl rfl rfl rfl ?_; rintro u z1 A' hz1 ⟨f0, f1, g0, g1, m', hw1, hw2, hw3, rfl, rfl, hR3⟩; ((try simp only [seval, go_sem]);repeat((with_reducible first|refine vJ ?_|refine vK ?_);try simp only [seval, go_sem]))
  (((try simp only [seval, go_sem]);repeat((with_reducible first|refine vJ ?_|refine vK ?_);try simp only [seval, go_sem])); refine FinV.own 1000 rfl ?_; simp only [finE, finS, gt, look, SV.toV, SC.toV, allV, tupV, zq1, zq2, zq3, zq4, Nat.reduceAdd, Nat.reduceEqDiff, reduceCtorEq, if_true, if_false, reduceIte, Nat.succ_ne_self, true_and, zq5, zq7, zq8])
  exact ⟨f0, f1, g0, g1, m', hw1, hw2, hw3, rfl, rfl, hR3⟩
theorem l9step_11 (c : Cfg) (link : Int) (e0 e1 : End) (n0 n1 : List Msg) (m : WM) (ev : Evt) (v : Value) (z : Zc) (hv : By z ev.data v) (hd : ev.data.length ≤ 100000) (hR : WldR z e0 e1 n0 n1 m) (hW : WldI ⟨c, [e0, e1], [n0, n1], link⟩) (hm : c.mode = 1) (hw : ev.who = 1) (hk : 1 ≤ ev.kind ∧ ev.kind ≤ 11) :
    Spec Tryz.prog 61 [wldV c link m, vEvt ev v] z (wldA e0 e1 n0 n1 m) (WldH c (step true ⟨c, [e0, e1], [n0, n1], link⟩ ev)) := by
  have hN : NetI n1 := hW.net 1 (by omega)
  by_cases h8 : ev.kind ≤ 8
  · exact l9step_n1 c link e0 e1 n0 n1 m ev v z hv hd hR hW hm hw ⟨hk.1, h8⟩
  · have h3 : ev.kind = 9 ∨ ev.kind = 10 ∨ ev.kind = 11 := by omega
    rcases h3 with h | h | h
    · exact l9step_b1 c link e0 e1 n0 n1 m ev v z hv hR hW hw h
    · rw [step_move1 c link e0 e1 n0 n1 ev h hw]
      exact l9move1 c link e0 e1 n0 n1 m ev v z hv hR hW.link hw h
    · rw [step_inj1 c link e0 e1 n0 n1 ev h hw]
      exact l9inj1 c link e0 e1 n0 n1 m ev v z hv (by omega) hR hN.1 hw h
def StepE (M : Int) : Prop := ∀ (c : Cfg) (link : Int) (e0 e1 : End) (n0 n1 : List Msg) (m : WM) (ev : Evt) (v : Value) (z : Zc), By z ev.data v → ev.data.length ≤ 100000 → WldR z e0 e1 n0 n1 m → WldI ⟨c, [e0, e1], [n0, n1], link⟩ → c.mode = M → (ev.who = 0 ∨ ev.who = 1) → (1 ≤ ev.kind ∧ ev.kind ≤ 11) →
    Spec Tryz.prog 61 [wldV c link m, vEvt ev v] z (wldA e0 e1 n0 n1 m) (WldH c (step true ⟨c, [e0, e1], [n0, n1], link⟩ ev))
theorem stepE_1 : StepE 1 := fun c link e0 e1 n0 n1 m ev v z h1 h2 h3 h4 h5 h6 h7 => h6.elim (fun h6 => l9step_10 c link e0 e1 n0 n1 m ev v z h1 h2 h3 h4 h5 h6 h7) fun h6 => l9step_11 c link e0 e1 n0 n1 m ev v z h1 h2 h3 h4 h5 h6 h7
set_option maxHeartbeats 2000000
def EvD (ev : Evt) : Prop := (1 ≤ ev.kind ∧ ev.kind ≤ 11) ∧ (ev.who = 0 ∨ ev.who = 1) ∧ ev.data.length ≤ 100
theorem EvC.d {ev : Evt} (h : EvC ev) : EvD ev := ⟨⟨h.1.1, by have := h.1.2; omega⟩, h.2⟩
theorem event_h (b : Nat) (A : Option Addr) (cc : Nat) (code : List Int) (p : Int) (c : Cfg) (link : Int) (m : WM) (z : Zc) (hb : By z code (.slice A code.length cc)) (hp : 0 ≤ p ∧ p ≤ 800000) (hl : code.length ≤ 2000) (hm : 1 ≤ c.mtu ∧ c.mtu ≤ 24) :
    Spec Tryz.prog 60 [.pointer (some ⟨b, 0, none⟩), wldV c link m, .bool true, .bool false] z (starL [rdA b A code.length cc p]) fun v z' A' => ∃ (ev : Evt) (B : Option Addr) (n k : Nat) (p' : Int), v = vEvt ev (.slice B n k) ∧ A' = starL [rdA b A code.length cc p'] ∧ By z' ev.data (.slice B n k) ∧ EvD ev ∧ ev.kind ≤ 10 ∧ p ≤ p' ∧ p' ≤ p + 200 := by
  (refine spec_enter1 Tryz.func60 ic60_ok fr60_ok Tryz.ntmps60 ?_; simp only [seval, go_sem, ic60, fr60])
  ((try simp only [seval, go_sem]);repeat((with_reducible first|refine vJ ?_|refine vK ?_);try simp only [seval, go_sem]))
  (try with_reducible refine callM.toT ?_); refine callW 1000 (pick_s b A cc code p 2 z hb (by omega) hl (by omega)) rfl rfl rfl rfl ?_; rintro v1 z1 A' hz1 ⟨x, rfl, rfl, rfl, hx, hx2, _⟩; ((try simp only [seval, go_sem]);repeat((with_reducible first|refine vJ ?_|refine vK ?_);try simp only [seval, go_sem]))
  (try with_reducible refine callM.toT ?_); refine callW 1000 (pick_s b A cc code (p + 1) 20 z hb (by omega) hl (by omega)) rfl rfl rfl rfl ?_; rintro v2 z1 A' hz2 ⟨y, rfl, rfl, rfl, hy, hy2, _⟩; ((try simp only [seval, go_sem]);repeat((with_reducible first|refine vJ ?_|refine vK ?_);try simp only [seval, go_sem]))
  have hw : x = 0 ∨ x = 1 := by have := hx2 (by omega); omega
  (try simp only [seval, go_sem]); repeat' (first | (with_reducible refine vsI.id ?_; (try simp only [seval, go_sem])) | (with_reducible refine vcI_cond ?_; (try simp only [seval, go_sem])) | (with_reducible refine guardR.split (fun hg => ?_) (fun hg => ?_) <;> (try simp only [hg]) <;> simp only [seval, go_sem]) | (with_reducible refine condI.split (fun hg => ?_) (fun hg => ?_) <;> (try simp only [hg]) <;> (try simp only [seval, go_sem])) | (with_reducible refine callM.toT ?_))
  all_goals try ((((try simp only [seval, go_sem]);repeat((with_reducible first|refine vJ ?_|refine vK ?_);try simp only [seval, go_sem])); refine FinV.own 1000 rfl ?_; simp only [finE, finS, gt, look, SV.toV, SC.toV, allV, tupV, zq1, zq2, zq3, zq4, Nat.reduceAdd, Nat.reduceEqDiff, reduceCtorEq, if_true, if_false, reduceIte, Nat.succ_ne_self, true_and, zq5, zq7, zq8]); first
    | exact ⟨⟨2, x, 0, 0, []⟩, none, 0, 0, _, rfl, rfl, Sl.nil _ _ _, ⟨by simp, hw, by simp⟩, by simp, by omega, by omega⟩
    | exact ⟨⟨3, x, 0, 0, []⟩, none, 0, 0, _, rfl, rfl, Sl.nil _ _ _, ⟨by simp, hw, by simp⟩, by simp, by omega, by omega⟩
    | exact ⟨⟨5, x, 0, 0, []⟩, none, 0, 0, _, rfl, rfl, Sl.nil _ _ _, ⟨by simp, hw, by simp⟩, by simp, by omega, by omega⟩
    | exact ⟨⟨6, x, 0, 0, []⟩, none, 0, 0, _, rfl, rfl, Sl.nil _ _ _, ⟨by simp, hw, by simp⟩, by simp, by omega, by omega⟩
    | exact ⟨⟨7, x, 0, 0, []⟩, none, 0, 0, _, rfl, rfl, Sl.nil _ _ _, ⟨by simp, hw, by simp⟩, by simp, by omega, by omega⟩
    | exact ⟨⟨8, x, 0, 0, []⟩, none, 0, 0, _, rfl, rfl, Sl.nil _ _ _, ⟨by simp, hw, by simp⟩, by simp, by omega, by omega⟩)
  · (try with_reducible refine callM.toT ?_); refine callW 1000 (pick_s b A cc code (p + 1 + 1) 2 z hb (by omega) hl (by omega)) rfl rfl rfl rfl ?_; rintro v3 z1 A' hz3 ⟨u, rfl, rfl, rfl, hu, hu2, _⟩; ((try simp only [seval, go_sem]);repeat((with_reducible first|refine vJ ?_|refine vK ?_);try simp only [seval, go_sem]))
    have hu1 := hu2 (by omega)
    have w1 : IntKind.i64.wrap (c.mtu + u) = c.mtu + u := wrap_in (by omega) (by omega)
    simp only [w1]
    (try with_reducible refine callM.toT ?_); refine callW 1000 (bytes_s b A cc code (p + 1 + 1 + 1) (c.mtu + u) z hb (by omega) hl (by omega)) rfl rfl rfl rfl ?_; rintro v4 z4 A' hz4 ⟨out, B, k, p', rfl, rfl, hby, hlen, hp1, hp2⟩; ((try simp only [seval, go_sem]);repeat((with_reducible first|refine vJ ?_|refine vK ?_);try simp only [seval, go_sem]))
    (((try simp only [seval, go_sem]);repeat((with_reducible first|refine vJ ?_|refine vK ?_);try simp only [seval, go_sem])); refine FinV.own 1000 rfl ?_; simp only [finE, finS, gt, look, SV.toV, SC.toV, allV, tupV, zq1, zq2, zq3, zq4, Nat.reduceAdd, Nat.reduceEqDiff, reduceCtorEq, if_true, if_false, reduceIte, Nat.succ_ne_self, true_and, zq5, zq7, zq8])
    exact ⟨⟨1, x, 0, 0, out⟩, B, out.length, k, p', rfl, rfl, hby, ⟨by simp, hw, by show out.length ≤ 100; omega⟩, by simp, by omega, by omega⟩
  · (try with_reducible refine callM.toT ?_); refine callW 1000 (pick_s b A cc code (p + 1 + 1) 2 z hb (by omega) hl (by omega)) rfl rfl rfl rfl ?_; rintro v3 z1 A' hz3 ⟨u, rfl, rfl, rfl, hu, hu2, _⟩; ((try simp only [seval, go_sem]);repeat((with_reducible first|refine vJ ?_|refine vK ?_);try simp only [seval, go_sem]))
    have hu1 := hu2 (by omega)
    have w1 : IntKind.i64.wrap (c.mtu + u) = c.mtu + u := wrap_in (by omega) (by omega)
    simp only [w1]
    (try with_reducible refine callM.toT ?_); refine callW 1000 (bytes_s b A cc code (p + 1 + 1 + 1) (c.mtu + u) z hb (by omega) hl (by omega)) rfl rfl rfl rfl ?_; rintro v4 z4 A' hz4 ⟨out, B, k, p', rfl, rfl, hby, hlen, hp1, hp2⟩; ((try simp only [seval, go_sem]);repeat((with_reducible first|refine vJ ?_|refine vK ?_);try simp only [seval, go_sem]))
    (((try simp only [seval, go_sem]);repeat((with_reducible first|refine vJ ?_|refine vK ?_);try simp only [seval, go_sem])); refine FinV.own 1000 rfl ?_; simp only [finE, finS, gt, look, SV.toV, SC.toV, allV, tupV, zq1, zq2, zq3, zq4, Nat.reduceAdd, Nat.reduceEqDiff, reduceCtorEq, if_true, if_false, reduceIte, Nat.succ_ne_self, true_and, zq5, zq7, zq8])
    exact ⟨⟨1, x, 0, 0, out⟩, B, out.length, k, p', rfl, rfl, hby, ⟨by simp, hw, by show out.length ≤ 100; omega⟩, by simp, by omega, by omega⟩
  · (try with_reducible refine callM.toT ?_); refine callW 1000 (pick_s b A cc code (p + 1 + 1) 2 z hb (by omega) hl (by omega)) rfl rfl rfl rfl ?_; rintro v3 z1 A' hz3 ⟨u, rfl, rfl, rfl, hu, hu2, _⟩; ((try simp only [seval, go_sem]);repeat((with_reducible first|refine vJ ?_|refine vK ?_);try simp only [seval, go_sem]))
    have hu1 := hu2 (by omega)
    have w1 : IntKind.i64.wrap (c.mtu + u) = c.mtu + u := wrap_in (by omega) (by omega)
    simp only [w1]
    (try with_reducible refine callM.toT ?_); refine callW 1000 (bytes_s b A cc code (p + 1 + 1 + 1) (c.mtu + u) z hb (by omega) hl (by omega)) rfl rfl rfl rfl ?_; rintro v4 z4 A' hz4 ⟨out, B, k, p', rfl, rfl, hby, hlen, hp1, hp2⟩; ((try simp only [seval, go_sem]);repeat((with_reducible first|refine vJ ?_|refine vK ?_);try simp only [seval, go_sem]))
    (((try simp only [seval, go_sem]);repeat((with_reducible first|refine vJ ?_|refine vK ?_);try simp only [seval, go_sem])); refine FinV.own 1000 rfl ?_; simp only [finE, finS, gt, look, SV.toV, SC.toV, allV, tupV, zq1, zq2, zq3, zq4, Nat.reduceAdd, Nat.reduceEqDiff, reduceCtorEq, if_true, if_false, reduceIte, Nat.succ_ne_self, true_and, zq5, zq7, zq8])
    exact ⟨⟨1, x, 0, 0, out⟩, B, out.length, k, p', rfl, rfl, hby, ⟨by simp, hw, by show out.length ≤ 100; omega⟩, by simp, by omega, by omega⟩
  · (try with_reducible refine callM.toT ?_); refine callW 1000 (pick_s b A cc code (p + 1 + 1) 2 z hb (by omega) hl (by omega)) rfl rfl rfl rfl ?_; rintro v3 z1 A' hz3 ⟨u, rfl, rfl, rfl, hu, hu2, _⟩; ((try simp only [seval, go_sem]);repeat((with_reducible first|refine vJ ?_|refine vK ?_);try simp only [seval, go_sem]))
    (try with_reducible refine callM.toT ?_); refine callW 1000 (pick_s b A cc code (p + 1 + 1 + 1) 2 z hb (by omega) hl (by omega)) rfl rfl rfl rfl ?_; rintro v4 z1 A' hz4 ⟨u', rfl, rfl, rfl, hu', hu2', _⟩; ((try simp only [seval, go_sem]);repeat((with_reducible first|refine vJ ?_|refine vK ?_);try simp only [seval, go_sem]))
    (((try simp only [seval, go_sem]);repeat((with_reducible first|refine vJ ?_|refine vK ?_);try simp only [seval, go_sem])); refine FinV.own 1000 rfl ?_; simp only [finE, finS, gt, look, SV.toV, SC.toV, allV, tupV, zq1, zq2, zq3, zq4, Nat.reduceAdd, Nat.reduceEqDiff, reduceCtorEq, if_true, if_false, reduceIte, Nat.succ_ne_self, true_and, zq5, zq7, zq8])
    exact ⟨⟨4, x, 0, _, []⟩, none, 0, 0, _, rfl, rfl, Sl.nil _ _ _, ⟨by simp, hw, by simp⟩, by simp, by omega, by omega⟩
  · (try with_reducible refine callM.toT ?_); refine callW 1000 (pick_s b A cc code (p + 1 + 1) 16 z hb (by omega) hl (by omega)) rfl rfl rfl rfl ?_; rintro v3 z1 A' hz3 ⟨u, rfl, rfl, rfl, hu, hu2, _⟩; ((try simp only [seval, go_sem]);repeat((with_reducible first|refine vJ ?_|refine vK ?_);try simp only [seval, go_sem]))
    (try with_reducible refine callM.toT ?_); refine callW 1000 (pick_s b A cc code (p + 1 + 1 + 1) 255 z hb (by omega) hl (by omega)) rfl rfl rfl rfl ?_; rintro v4 z1 A' hz4 ⟨u', rfl, rfl, rfl, hu', hu2', _⟩; ((try simp only [seval, go_sem]);repeat((with_reducible first|refine vJ ?_|refine vK ?_);try simp only [seval, go_sem]))
    (((try simp only [seval, go_sem]);repeat((with_reducible first|refine vJ ?_|refine vK ?_);try simp only [seval, go_sem])); refine FinV.own 1000 rfl ?_; simp only [finE, finS, gt, look, SV.toV, SC.toV, allV, tupV, zq1, zq2, zq3, zq4, Nat.reduceAdd, Nat.reduceEqDiff, reduceCtorEq, if_true, if_false, reduceIte, Nat.succ_ne_self, true_and, zq5, zq7, zq8])
    exact ⟨⟨9, x, _, _, []⟩, none, 0, 0, _, rfl, rfl, Sl.nil _ _ _, ⟨by simp, hw, by simp⟩, by simp, by omega, by omega⟩
  · (try with_reducible refine callM.toT ?_); refine callW 1000 (pick_s b A cc code (p + 1 + 1) 4 z hb (by omega) hl (by omega)) rfl rfl rfl rfl ?_; rintro v3 z1 A' hz3 ⟨u, rfl, rfl, rfl, hu, hu2, _⟩; ((try simp only [seval, go_sem]);repeat((with_reducible first|refine vJ ?_|refine vK ?_);try simp only [seval, go_sem]))
    (try simp only [seval, go_sem]); repeat' (first | (with_reducible refine vsI.id ?_; (try simp only [seval, go_sem])) | (with_reducible refine vcI_cond ?_; (try simp only [seval, go_sem])) | (with_reducible refine guardR.split (fun hg => ?_) (fun hg => ?_) <;> (try simp only [hg]) <;> simp only [seval, go_sem]) | (with_reducible refine condI.split (fun hg => ?_) (fun hg => ?_) <;> (try simp only [hg]) <;> (try simp only [seval, go_sem])) | (with_reducible refine callM.toT ?_))
    all_goals (((try simp only [seval, go_sem]);repeat((with_reducible first|refine vJ ?_|refine vK ?_);try simp only [seval, go_sem])); refine FinV.own 1000 rfl ?_; simp only [finE, finS, gt, look, SV.toV, SC.toV, allV, tupV, zq1, zq2, zq3, zq4, Nat.reduceAdd, Nat.reduceEqDiff, reduceCtorEq, if_true, if_false, reduceIte, Nat.succ_ne_self, true_and, zq5, zq7, zq8])
    · exact ⟨⟨10, 0, 0, 0, []⟩, none, 0, 0, _, rfl, rfl, Sl.nil _ _ _, ⟨by simp, .inl rfl, by simp⟩, by simp, by omega, by omega⟩
    · exact ⟨⟨7, x, 0, 0, []⟩, none, 0, 0, _, rfl, rfl, Sl.nil _ _ _, ⟨by simp, hw, by simp⟩, by simp, by omega, by omega⟩
set_option maxHeartbeats 4000000
def PlayG (Q : Evt → Prop) (M : Int) (v : Value) (z : Zc) (A : Asrt) : Prop := ∃ (c : Cfg) (evs : List Evt) (B : Option Addr) (k : Nat) (link : Int) (m : WM) (e0 e1 : End) (n0 n1 : List Msg), v = .tuple #[vCfg c, .slice B evs.length k, wldV c link m] ∧ A = wldA e0 e1 n0 n1 m ∧ WldR z e0 e1 n0 n1 m ∧ WldI ⟨c, [e0, e1], [n0, n1], link⟩ ∧ Sl eRep z evs (.slice B evs.length k) ∧ CfgI c ∧ (0 < M → c.mode = M) ∧ (∀ e ∈ evs, Q e) ∧ evs.length ≤ 140
def DrawE (Q : Evt → Prop) (hard inj : Bool) : Prop := ∀ (b : Nat) (A : Option Addr) (cc : Nat) (code : List Int) (p : Int) (c : Cfg) (link : Int) (m : WM) (z : Zc), By z code (.slice A code.length cc) → (0 ≤ p ∧ p ≤ 800000) → code.length ≤ 2000 → (1 ≤ c.mtu ∧ c.mtu ≤ 24) →
    Spec Tryz.prog 60 [.pointer (some ⟨b, 0, none⟩), wldV c link m, .bool hard, .bool inj] z (starL [rdA b A code.length cc p]) fun v z' A' => ∃ (ev : Evt) (B : Option Addr) (n k : Nat) (p' : Int), v = vEvt ev (.slice B n k) ∧ A' = starL [rdA b A code.length cc p'] ∧ By z' ev.data (.slice B n k) ∧ EvD ev ∧ Q ev ∧ p ≤ p' ∧ p' ≤ p + 200
theorem drawE_h : DrawE (fun e => EvD e ∧ e.kind ≤ 10) true false := fun b A cc code p c link m z h1 h2 h3 h4 => (event_h b A cc code p c link m z h1 h2 h3 h4).mono fun v z' A' _ ⟨ev, B, n, k, p', g1, g2, g3, g4, g5, g6⟩ => ⟨ev, B, n, k, p', g1, g2, g3, g4, ⟨g4, g5⟩, g6⟩
theorem play_g (M : Int) (hM : M = 1 ∨ M = 2) (hS : StepE M) (Q : Evt → Prop) (hard inj : Bool) (hQ : DrawE Q hard inj) (b : Nat) (A : Option Addr) (cc : Nat) (code : List Int) (z : Zc) (hb : By z code (.slice A code.length cc)) (hlen : code.length ≤ 2000) :
    Spec Tryz.prog 30 [.pointer (some ⟨b, 0, none⟩), .int .i64 140, .int .i64 M, .bool hard, .bool inj] z (starL [rdA b A code.length cc 0]) (PlayG Q M) := by
  have hd : decide (M > 0) = true := decide_eq_true (by omega)
  (refine spec_enter1 Tryz.func30 ic30_ok fr30_ok Tryz.ntmps30 ?_; simp only [seval, go_sem, ic30, fr30])
  ((try simp only [seval, go_sem]);repeat((with_reducible first|refine vJ ?_|refine vK ?_);try simp only [seval, go_sem]))
  (try with_reducible refine callM.toT ?_); refine callW 1000 (cfg_s b A cc code 0 z hb (by omega) hlen) rfl rfl rfl rfl ?_; rintro v1 z1 A1 hz1 ⟨⟨q1, q2, q3, q4, q5⟩, p1, rfl, rfl, hc1, hp1, hp1'⟩; ((try simp only [seval, go_sem]);repeat((with_reducible first|refine vJ ?_|refine vK ?_);try simp only [seval, go_sem]))
  try simp only [hd]
  ((try simp only [seval, go_sem]);repeat((with_reducible first|refine vJ ?_|refine vK ?_);try simp only [seval, go_sem]))
  have hc : CfgI ⟨M, q2, q3, q4, q5⟩ := ⟨hM, hc1.win, hc1.mps, hc1.mtu, hc1.tri⟩
  (try with_reducible refine callM.toT ?_); refine callO 1001 ((new_s ⟨M, q2, q3, q4, q5⟩ z1 (cfgOk_iff.2 hc)).mono fun _ _ _ _ h => wldH_of h (wldNew_I hc)) rfl rfl rfl ?_; rintro v2 z2 A2 hz2 ⟨e0, e1, n0, n1, m, link, rfl, rfl, hR, hW⟩; ((try simp only [seval, go_sem]);repeat((with_reducible first|refine vJ ?_|refine vK ?_);try simp only [seval, go_sem]))
  (try with_reducible refine callM.toT ?_); refine callW 1000 (pick_s b A cc code p1 140 z2 ((hb.mono hz1).mono hz2) (by omega) hlen (by omega)) rfl rfl rfl rfl ?_; rintro v3 z3 A3 hz3 ⟨x, rfl, rfl, rfl, hx0, hx1, _⟩; ((try simp only [seval, go_sem]);repeat((with_reducible first|refine vJ ?_|refine vK ?_);try simp only [seval, go_sem]))
  have hx1 := hx1 (by omega)
  obtain ⟨k0, rfl⟩ := Int.eq_ofNat_of_zero_le hx0
  refine loopV.toRow 90 4 rfl rfl (m := 0) (sz := 5) rfl (by omega) (fun b0 => ?_)
  simp only [seval, go_sem, rowSt, subV, subC, subE, subL]
  refine loop_upd (ι := PlayS) (n := 5) (fun s => z2 ≤ s.z ∧ s.k + s.evs.length = k0 ∧ p1 ≤ s.p ∧ s.p ≤ p1 + 1 + 200 * s.evs.length ∧ Els eRep s.z s.evs s.cs ∧ s.evs.length ≤ s.C ∧ (∀ e ∈ s.evs, Q e) ∧ WldR s.z s.e0 s.e1 s.n0 s.n1 s.m ∧ WldI ⟨⟨M, q2, q3, q4, q5⟩, [s.e0, s.e1], [s.n0, s.n1], s.link⟩) (fun s => [(15, .c (.v (.slice s.A s.evs.length s.C))), (16, .c (.v (.int .i64 s.k)))])
    (fun s => [(1000, .own (starL [rdA b A code.length cc s.p])), (1001, .own (wldA s.e0 s.e1 s.n0 s.n1 s.m)), (90, .own (rowA 37 5 (.slice s.A s.evs.length s.C) s.evs.length s.cs)), (3, .cells 73 [.v (.int .i64 M), .v (.int .i64 q2), .v (.int .i64 q3), .v (.int .i64 q4), .v (.int .i64 q5), .v (.slice s.m.E 2 s.m.EC), .v (.slice s.m.N 2 s.m.NC), .v (.int .i64 s.link)]), (2, .cells 24 [.v (.int .i64 M), .v (.int .i64 q2), .v (.int .i64 q3), .v (.int .i64 q4), .v (.int .i64 q5)]), (1, .cells 73 [.v (.int .i64 0), .v (.int .i64 0), .v (.int .i64 0), .v (.int .i64 0), .v (.int .i64 0), .v (.slice none 0 0), .v (.slice none 0 0), .v (.int .i64 0)]), (0, .cells 24 z5)])
    (fun s => s.z) (fun s => s.k) ⟨k0, p1 + 1, [], [], some ⟨b0, 0, none⟩, 0, e0, e1, n0, n1, link, m, z2⟩ ⟨Zc.rfl' _, by simp, by dsimp only; omega, by simp, rfl, Nat.le_refl _, by simp, hR, hW⟩ (by (simp only [wrI, wrR, anyL, st, List.append_nil, List.nil_append, List.cons_append]); exact rfl) ?_ ?_
  · simp only [List.length_nil]
    (refine Le.of ?_ ?_ rfl ?_ ⟨rfl, rfl⟩; rotate_left; (simp only [LeL, look, del, Nat.reduceEqDiff, reduceCtorEq, if_true, if_false, reduceIte, Nat.succ_ne_self, and_true, true_and, and_self]); (first | exact Nat.le_refl _ | decide | (dsimp only; omega)); (simp (disch := omega) only [LeT, updL, st, reduceCtorEq, true_or, or_true, false_or, and_true, true_and, SV.c.injEq, SC.v.injEq, Value.int.injEq, Value.slice.injEq, wrap_in, Int.natCast_add, Int.natCast_one, Int.natCast_zero, Int.cast_ofNat_Int]) <;> (try (repeat' constructor)) <;> (first | rfl | omega))
  · rintro ⟨k, p, evs, cs, EA, EC, e0, e1, n0, n1, link, m, y⟩ ⟨hy, hk, hp2, hp3, hE, hEC, hEv, hR, hW⟩
    dsimp only at *
    ((try simp only [seval, go_sem]);repeat((with_reducible first|refine vJ ?_|refine vK ?_);try simp only [seval, go_sem]))
    (with_reducible refine condI.split (fun hg => ?_) (fun hg => ?_) <;> (try simp only [hg]) <;> (try simp only [seval, go_sem]))
    · have hk0 : 0 < k := by have := of_decide_eq_true hg; omega
      ((try simp only [seval, go_sem]);repeat((with_reducible first|refine vJ ?_|refine vK ?_);try simp only [seval, go_sem]))
      (try with_reducible refine callM.toT ?_); refine callW 1000 (hQ b A cc code p ⟨M, q2, q3, q4, q5⟩ link m y (((hb.mono hz1).mono hz2).mono hy) ⟨by omega, by omega⟩ hlen ⟨hc.mtu.1, hc.mtu.2⟩) rfl rfl rfl rfl ?_; rintro v4 z4 A4 hz4 ⟨eV, B, bn, bc, p', rfl, rfl, hby, hev, hqe, hp4, hp5⟩; ((try simp only [seval, go_sem]);repeat((with_reducible first|refine vJ ?_|refine vK ?_);try simp only [seval, go_sem]))
      have hr4 := WldR.mono hz4 hR
      (try with_reducible refine appM.toT ?_); (refine appM_newF 90 atyV rfl rfl rfl rfl rfl rfl rfl (by simp [Value.oneCell']) (by omega) (fun A6 c6 hc6 hat6 => ?_)); simp only [seval, go_sem]
      ((try simp only [seval, go_sem]);repeat((with_reducible first|refine vJ ?_|refine vK ?_);try simp only [seval, go_sem]))
      obtain ⟨hk1, hwho, hdl⟩ := hev
      have hEv' : ∀ x ∈ evs ++ [eV], Q x := fun x hx => by
        rcases List.mem_append.1 hx with hx | hx
        · exact hEv x hx
        · rw [List.mem_singleton.1 hx]; exact hqe
      have hW' := step_I (g := true) hW eV
      have hwk : IntKind.i64.wrap ((k : Int) - 1) = ((k - 1 : Nat) : Int) := by rw [wrap_in (by omega) (by omega)]; omega
      (try with_reducible refine callM.toT ?_); refine callW 1001 ((hS ⟨M, q2, q3, q4, q5⟩ link e0 e1 n0 n1 m eV (.slice B bn bc) z4 hby (by omega) hr4 hW rfl hwho hk1).mono fun _ _ _ _ h => wldH_of h hW') rfl rfl rfl rfl ?_; rintro v5 z5 A5 hz5 ⟨e0', e1', n0', n1', m', link', rfl, rfl, hR5, hW5⟩; ((try simp only [seval, go_sem]);repeat((with_reducible first|refine vJ ?_|refine vK ?_);try simp only [seval, go_sem]))
      ((try simp only [seval, go_sem]);repeat((with_reducible first|refine vJ ?_|refine vK ?_);try simp only [seval, go_sem]))
      simp only [hwk]
      refine ⟨⟨k - 1, p', evs ++ [eV], cs ++ [.int .i64 eV.kind, .int .i64 eV.who, .int .i64 eV.at_, .int .i64 eV.v, .slice B bn bc], A6, c6, e0', e1', n0', n1', link', m', z5⟩, ⟨Zc.trans' hy (Zc.trans' hz4 hz5), by dsimp only; rw [List.length_append, List.length_singleton]; omega, by dsimp only; omega, by dsimp only; rw [List.length_append, List.length_singleton]; omega, ?_, by dsimp only; rw [List.length_append, List.length_singleton]; omega, hEv', hR5, hW5⟩, by dsimp only; omega, ?_⟩
      · exact Els.append (hE.mono (Zc.trans' hz4 hz5)) (Els.single ⟨_, rfl, hby.mono hz5⟩)
      · simp only [List.length_append, List.length_singleton]
        (refine Le.of ?_ ?_ rfl ?_ ⟨rfl, rfl⟩; rotate_left; (simp only [LeL, look, del, Nat.reduceEqDiff, reduceCtorEq, if_true, if_false, reduceIte, Nat.succ_ne_self, and_true, true_and, and_self]); (first | exact Nat.le_refl _ | decide | (dsimp only; omega)); (simp (disch := omega) only [LeT, updL, st, reduceCtorEq, true_or, or_true, false_or, and_true, true_and, SV.c.injEq, SC.v.injEq, Value.int.injEq, Value.slice.injEq, wrap_in, Int.natCast_add, Int.natCast_one, Int.natCast_zero, Int.cast_ofNat_Int]) <;> (try (repeat' constructor)) <;> (first | rfl | omega))
    · have hk0 : k = 0 := by have := of_decide_eq_false hg; omega
      subst hk0
      (try simp only [seval, go_sem])
      refine vsI.frzA 1001 rfl (RdA.wld hR) rfl (fun z6 hz6 hP6 => ?_)
      have hP6 := hP6 hz6
      simp only [seval, go_sem]
      (refine vsI.frzR 90 rfl rfl (fun A7 c7 z7 hv7 hc7 hz7 hr7 => ?_)); (first | subst hv7 | (injection hv7 with hv_1 hv_2 hv_3; subst hv_1; subst hv_3)); ((try simp only [seval, go_sem]);repeat((with_reducible first|refine vJ ?_|refine vK ?_);try simp only [seval, go_sem]))
      (try with_reducible refine callM.toT ?_); refine callO 1001 ((copy_s ⟨M, q2, q3, q4, q5⟩ link e0 e1 n0 n1 m z7 (hP6.mono hz7) hW).mono fun _ _ _ _ h => wldH_of h hW) rfl rfl rfl ?_; rintro v8 z8 A8 hz8 ⟨e0', e1', n0', n1', m', link', rfl, rfl, hR8, hW8⟩; ((try simp only [seval, go_sem]);repeat((with_reducible first|refine vJ ?_|refine vK ?_);try simp only [seval, go_sem]))
      (((try simp only [seval, go_sem]);repeat((with_reducible first|refine vJ ?_|refine vK ?_);try simp only [seval, go_sem])); refine FinV.own 1001 rfl ?_; simp only [finE, finS, gt, look, SV.toV, SC.toV, allV, tupV, zq1, zq2, zq3, zq4, Nat.reduceAdd, Nat.reduceEqDiff, reduceCtorEq, if_true, if_false, reduceIte, Nat.succ_ne_self, true_and, zq5, zq7, zq8])
      exact ⟨⟨M, q2, q3, q4, q5⟩, evs, _, _, link', m', e0', e1', n0', n1', rfl, rfl, hR8, hW8, ⟨_, _, _, rfl, hc7, hE.mono (Zc.trans' hz6 (Zc.trans' hz7 hz8)), hr7.mono hz8⟩, hc, fun _ => rfl, hEv, by omega⟩
end Go.Proofs.YtpjaidjnamngaaaGreat
