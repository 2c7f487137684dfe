/- A step, whatever happens, by the reference. · What is drawn to happen, whatever is lost, bent, or moved. · What is drawn to happen to two ends, of one kind. · Codes of functions, group ImpT. -/
import Derived.Test.YtnkhjnieidlknaaGreatB16
import Derived.Test.YtnkhjnieidlknaaGreatB13
import Derived.Test.YtnkhjnieidlknaaGreatB15
import Derived.Test.YtnkhjnieidlknaaGreatB3
import Derived.Test.YtnkhjnieidlknaaGreatProg
import Derived.Test.YtnkhjnieidlknaaGreatB4
namespace Go.Proofs.YtnkhjnieidlknaaGreat
open Go.RowKit
set_option linter.unusedVariables false
set_option linter.unusedSimpArgs false
set_option maxRecDepth 100000
set_option maxHeartbeats 1000000
theorem stepn_put0 (c : Cfg) (link : Int) (e0 e1 : End) (n0 n1 : List Msg) (ev : Evt) (hm : c.mode = 1) (hk : ev.kind = 1) (hw : ev.who = 0) : step true ⟨c, [e0, e1], [n0, n1], link⟩ ev = if e0.put.length < 60 then ⟨c, [e0, e1].set 0 (putM c e0 ev.data), [n0, n1], link⟩ else ⟨c, [e0, e1], [n0, n1], link⟩ := by
  obtain ⟨kind, who, at_, v, data⟩ := ev
  obtain ⟨mode, win, mps, mtu, tri⟩ := c
  dsimp only at *
  subst hm hk hw
  rfl
theorem stepn_send0 (c : Cfg) (link : Int) (e0 e1 : End) (n0 n1 : List Msg) (ev : Evt) (hm : c.mode = 1) (hk : ev.kind = 2) (hw : ev.who = 0) : step true ⟨c, [e0, e1], [n0, n1], link⟩ ev = if n1.length < 30 then sayO ⟨c, [e0, e1].set 0 { e0 with tx := (txSend true c e0.tx e0.rx.expect).1 }, [n0, n1], link⟩ 0 (txSend true c e0.tx e0.rx.expect).2 else ⟨c, [e0, e1], [n0, n1], link⟩ := by
  obtain ⟨kind, who, at_, v, data⟩ := ev
  obtain ⟨mode, win, mps, mtu, tri⟩ := c
  dsimp only at *
  subst hm hk hw
  rfl
theorem stepn_tick0 (c : Cfg) (link : Int) (e0 e1 : End) (n0 n1 : List Msg) (ev : Evt) (hm : c.mode = 1) (hk : ev.kind = 3) (hw : ev.who = 0) : step true ⟨c, [e0, e1], [n0, n1], link⟩ ev = sayO ⟨c, [e0, e1].set 0 { e0 with tx := (txTick c e0.tx e0.rx.expect e0.rx.busy).1 }, [n0, n1], link⟩ 0 (txTick c e0.tx e0.rx.expect e0.rx.busy).2 := by
  obtain ⟨kind, who, at_, v, data⟩ := ev
  obtain ⟨mode, win, mps, mtu, tri⟩ := c
  dsimp only at *
  subst hm hk hw
  rfl
theorem stepn_say0 (c : Cfg) (link : Int) (e0 e1 : End) (n0 n1 : List Msg) (ev : Evt) (hm : c.mode = 1) (hk : ev.kind = 4 ∨ ev.kind = 5 ∨ ev.kind = 6) (hw : ev.who = 0) : step true ⟨c, [e0, e1], [n0, n1], link⟩ ev = if ev.kind = 4 then says ⟨c, [e0, e1].set 0 { e0 with rx := (rxBusy e0.rx (decide (ev.v = 1))).1 }, [n0, n1], link⟩ 0 (rxBusy e0.rx (decide (ev.v = 1))).2 else if ev.kind = 5 ∧ e0.rx.dead = false then say1 ⟨c, [e0, e1], [n0, n1], link⟩ 0 (rxAck e0.rx) else ⟨c, [e0, e1], [n0, n1], link⟩ := by
  obtain ⟨kind, who, at_, v, data⟩ := ev
  obtain ⟨mode, win, mps, mtu, tri⟩ := c
  dsimp only at *
  subst hm hw
  rcases hk with rfl | rfl | rfl
  · rfl
  · show (if e0.rx.dead = true then _ else _) = _
    cases e0.rx.dead <;> rfl
  · rfl
theorem stepn_hear0 (c : Cfg) (link : Int) (e0 e1 : End) (n0 n1 : List Msg) (ev : Evt) (hm : c.mode = 1) (hk : ev.kind = 7) (hw : ev.who = 0) : step true ⟨c, [e0, e1], [n0, n1], link⟩ ev = hear1N0 c link e0 e1 n0 n1 := by
  obtain ⟨kind, who, at_, v, data⟩ := ev
  obtain ⟨mode, win, mps, mtu, tri⟩ := c
  dsimp only at *
  subst hm hk hw
  cases n0 with
  | nil => rfl
  | cons a l =>
    show hear1 ⟨⟨1, win, mps, mtu, tri⟩, [e0, e1], [a :: l, n1], link⟩ 0 = _
    simp only [hear1, netAt, List.getD_cons_zero, List.getD_cons_succ, hear1N0]
    cases frmRead a.bytes with
    | none => rfl
    | some f =>
      simp only [hearF, frameN0]
      by_cases h : f.kind = 1 ∨ f.kind = 2
      · rw [if_pos h]; simp only [h, if_true]; rfl
      · rw [if_neg h]; simp only [h, if_false]; rfl
theorem step_bend0 (c : Cfg) (link : Int) (e0 e1 : End) (n0 n1 : List Msg) (ev : Evt) (hk : ev.kind = 9) (hw : ev.who = 0) : step true ⟨c, [e0, e1], [n0, n1], link⟩ ev = ⟨c, [e0, e1], [n0, n1].set 0 (bendL n0 ev.at_ ev.v), link⟩ := by
  obtain ⟨kind, who, at_, v, data⟩ := ev
  dsimp only at *
  subst hk hw
  cases n0 <;> rfl
theorem step_move0 (c : Cfg) (link : Int) (e0 e1 : End) (n0 n1 : List Msg) (ev : Evt) (hk : ev.kind = 10) (hw : ev.who = 0) : step true ⟨c, [e0, e1], [n0, n1], link⟩ ev = ⟨c, [e0, e1], [[], []], 1 - link⟩ := by
  obtain ⟨kind, who, at_, v, data⟩ := ev
  dsimp only at *
  subst hk hw
  rfl
theorem stepn_put1 (c : Cfg) (link : Int) (e0 e1 : End) (n0 n1 : List Msg) (ev : Evt) (hm : c.mode = 1) (hk : ev.kind = 1) (hw : ev.who = 1) : step true ⟨c, [e0, e1], [n0, n1], link⟩ ev = if e1.put.length < 60 then ⟨c, [e0, e1].set 1 (putM c e1 ev.data), [n0, n1], link⟩ else ⟨c, [e0, e1], [n0, n1], link⟩ := by
  obtain ⟨kind, who, at_, v, data⟩ := ev
  obtain ⟨mode, win, mps, mtu, tri⟩ := c
  dsimp only at *
  subst hm hk hw
  rfl
theorem stepn_send1 (c : Cfg) (link : Int) (e0 e1 : End) (n0 n1 : List Msg) (ev : Evt) (hm : c.mode = 1) (hk : ev.kind = 2) (hw : ev.who = 1) : step true ⟨c, [e0, e1], [n0, n1], link⟩ ev = if n0.length < 30 then sayO ⟨c, [e0, e1].set 1 { e1 with tx := (txSend true c e1.tx e1.rx.expect).1 }, [n0, n1], link⟩ 1 (txSend true c e1.tx e1.rx.expect).2 else ⟨c, [e0, e1], [n0, n1], link⟩ := by
  obtain ⟨kind, who, at_, v, data⟩ := ev
  obtain ⟨mode, win, mps, mtu, tri⟩ := c
  dsimp only at *
  subst hm hk hw
  rfl
theorem stepn_tick1 (c : Cfg) (link : Int) (e0 e1 : End) (n0 n1 : List Msg) (ev : Evt) (hm : c.mode = 1) (hk : ev.kind = 3) (hw : ev.who = 1) : step true ⟨c, [e0, e1], [n0, n1], link⟩ ev = sayO ⟨c, [e0, e1].set 1 { e1 with tx := (txTick c e1.tx e1.rx.expect e1.rx.busy).1 }, [n0, n1], link⟩ 1 (txTick c e1.tx e1.rx.expect e1.rx.busy).2 := by
  obtain ⟨kind, who, at_, v, data⟩ := ev
  obtain ⟨mode, win, mps, mtu, tri⟩ := c
  dsimp only at *
  subst hm hk hw
  rfl
theorem stepn_say1 (c : Cfg) (link : Int) (e0 e1 : End) (n0 n1 : List Msg) (ev : Evt) (hm : c.mode = 1) (hk : ev.kind = 4 ∨ ev.kind = 5 ∨ ev.kind = 6) (hw : ev.who = 1) : step true ⟨c, [e0, e1], [n0, n1], link⟩ ev = if ev.kind = 4 then says ⟨c, [e0, e1].set 1 { e1 with rx := (rxBusy e1.rx (decide (ev.v = 1))).1 }, [n0, n1], link⟩ 1 (rxBusy e1.rx (decide (ev.v = 1))).2 else if ev.kind = 5 ∧ e1.rx.dead = false then say1 ⟨c, [e0, e1], [n0, n1], link⟩ 1 (rxAck e1.rx) else ⟨c, [e0, e1], [n0, n1], link⟩ := by
  obtain ⟨kind, who, at_, v, data⟩ := ev
  obtain ⟨mode, win, mps, mtu, tri⟩ := c
  dsimp only at *
  subst hm hw
  rcases hk with rfl | rfl | rfl
  · rfl
  · show (if e1.rx.dead = true then _ else _) = _
    cases e1.rx.dead <;> rfl
  · rfl
theorem stepn_hear1 (c : Cfg) (link : Int) (e0 e1 : End) (n0 n1 : List Msg) (ev : Evt) (hm : c.mode = 1) (hk : ev.kind = 7) (hw : ev.who = 1) : step true ⟨c, [e0, e1], [n0, n1], link⟩ ev = hear1N1 c link e0 e1 n0 n1 := by
  obtain ⟨kind, who, at_, v, data⟩ := ev
  obtain ⟨mode, win, mps, mtu, tri⟩ := c
  dsimp only at *
  subst hm hk hw
  cases n1 with
  | nil => rfl
  | cons a l =>
    show hear1 ⟨⟨1, win, mps, mtu, tri⟩, [e0, e1], [n0, a :: l], link⟩ 1 = _
    simp only [hear1, netAt, List.getD_cons_zero, List.getD_cons_succ, hear1N1]
    cases frmRead a.bytes with
    | none => rfl
    | some f =>
      simp only [hearF, frameN1]
      by_cases h : f.kind = 1 ∨ f.kind = 2
      · rw [if_pos h]; simp only [h, if_true]; rfl
      · rw [if_neg h]; simp only [h, if_false]; rfl
theorem step_bend1 (c : Cfg) (link : Int) (e0 e1 : End) (n0 n1 : List Msg) (ev : Evt) (hk : ev.kind = 9) (hw : ev.who = 1) : step true ⟨c, [e0, e1], [n0, n1], link⟩ ev = ⟨c, [e0, e1], [n0, n1].set 1 (bendL n1 ev.at_ ev.v), link⟩ := by
  obtain ⟨kind, who, at_, v, data⟩ := ev
  dsimp only at *
  subst hk hw
  cases n1 <;> rfl
theorem step_move1 (c : Cfg) (link : Int) (e0 e1 : End) (n0 n1 : List Msg) (ev : Evt) (hk : ev.kind = 10) (hw : ev.who = 1) : step true ⟨c, [e0, e1], [n0, n1], link⟩ ev = ⟨c, [e0, e1], [[], []], 1 - link⟩ := by
  obtain ⟨kind, who, at_, v, data⟩ := ev
  dsimp only at *
  subst hk hw
  rfl
theorem l9step_n0 (c : Cfg) (link : Int) (e0 e1 : End) (n0 n1 : List Msg) (m : WM) (ev : Evt) (v : Value) (z : Zc) (hv : By z ev.data v) (hd : ev.data.length ≤ 100000) (hR : WldR z e0 e1 n0 n1 m) (hW : WldI ⟨c, [e0, e1], [n0, n1], link⟩) (hm : c.mode = 1) (hw : ev.who = 0) (hk : 1 ≤ ev.kind ∧ ev.kind ≤ 8) :
    Spec Tryz.prog 54 [wldV c link m, vEvt ev v] z (wldA e0 e1 n0 n1 m) (WldH c (step true ⟨c, [e0, e1], [n0, n1], link⟩ ev)) := by
  have hI : EndI c e0 := hW.ends 0 (by omega)
  have hN : NetI n0 := hW.net 0 (by omega)
  have hNw : NetI n1 := hW.net 1 (by omega)
  have hp60 := hI.put.1
  have hn30 := hNw.1
  have hn30' := hN.1
  obtain ⟨kind, who, at_, vv, data⟩ := ev
  dsimp only at *
  subst hw
  obtain ⟨Av, kv, rfl, hkv, hBv, hrv⟩ := hv.form
  (refine spec_enter1 Tryz.func54 ic54_ok fr54_ok Tryz.ntmps54 ?_; simp only [seval, go_sem, ic54, fr54])
  refine gO ?_
  refine tT ?_; refine callP (in_s 0 0 1 z) rfl rfl ?_; rintro _ _ - ⟨rfl, rfl⟩; refine gO ?_
  simp only [seval, go_sem, show inB 0 0 1 = true from rfl, show inB 1 0 1 = true from rfl]
  refine gO ?_
  have hk8 : kind = 1 ∨ kind = 2 ∨ kind = 3 ∨ kind = 4 ∨ kind = 5 ∨ kind = 6 ∨ kind = 7 ∨ kind = 8 := by omega
  rcases hk8 with rfl | rfl | rfl | rfl | rfl | rfl | rfl | rfl
  · simp only [seval, go_sem]
    refine gO ?_
    by_cases h60 : e0.put.length < 60
    · refine tT ?_; refine callW 1000 (l9put_n0 c link e0 e1 n0 n1 m data (.slice Av data.length kv) z hR hI hv hd hm h60) rfl rfl rfl rfl ?_; rintro u z1 A' hz1 ⟨e', he', hH⟩; refine gO ?_
      obtain ⟨f0, f1, g0, g1, m', hw1, hw2, hw3, rfl, rfl, hR3⟩ := hH
      refine fQ ?_
      rw [stepn_put0 c link e0 e1 n0 n1 _ hm rfl rfl, if_pos h60]
      subst he'
      exact ⟨f0, f1, g0, g1, m', hw1, hw2, hw3, rfl, rfl, hR3⟩
    · refine tT ?_; refine callW 1000 (l9put_f0 c link e0 e1 n0 n1 m (.slice Av data.length kv) z hR data hv (by omega)) rfl rfl rfl rfl ?_; rintro u z1 A' hz1 ⟨f0, f1, g0, g1, m', hw1, hw2, hw3, rfl, rfl, hR3⟩; refine gO ?_
      refine fQ ?_
      rw [stepn_put0 c link e0 e1 n0 n1 _ hm rfl rfl, if_neg h60]
      exact ⟨f0, f1, g0, g1, m', hw1, hw2, hw3, rfl, rfl, hR3⟩
  · simp only [seval, go_sem]
    refine gO ?_
    refine tT ?_; refine callW 1000 (l9send_n0 c link e0 e1 n0 n1 m z hR hI hm hn30) rfl rfl rfl rfl ?_; rintro u z1 A' hz1 ⟨f0, f1, g0, g1, m', hw1, hw2, hw3, rfl, rfl, hR3⟩; refine gO ?_
    refine fQ ?_
    rw [stepn_send0 c link e0 e1 n0 n1 _ hm rfl rfl]
    exact ⟨f0, f1, g0, g1, m', hw1, hw2, hw3, rfl, rfl, hR3⟩
  · simp only [seval, go_sem]
    refine gO ?_
    refine tT ?_; refine callW 1000 (l9tick_n0 c link e0 e1 n0 n1 m z hR hI hm hn30) rfl rfl rfl rfl ?_; rintro u z1 A' hz1 ⟨f0, f1, g0, g1, m', hw1, hw2, hw3, rfl, rfl, hR3⟩; refine gO ?_
    refine fQ ?_
    rw [stepn_tick0 c link e0 e1 n0 n1 _ hm rfl rfl]
    exact ⟨f0, f1, g0, g1, m', hw1, hw2, hw3, rfl, rfl, hR3⟩
  · simp only [seval, go_sem]
    refine gO ?_
    refine tT ?_; refine callW 1000 (l9say_n0 c link e0 e1 n0 n1 m ⟨4, 0, at_, vv, data⟩ (.slice Av data.length kv) z hv hR hI hm (by omega) (by omega) rfl (.inl rfl)) rfl rfl rfl rfl ?_; rintro u z1 A' hz1 ⟨f0, f1, g0, g1, m', hw1, hw2, hw3, rfl, rfl, hR3⟩; refine gO ?_
    refine fQ ?_
    rw [stepn_say0 c link e0 e1 n0 n1 _ hm (.inl rfl) rfl]
    first
      | exact ⟨f0, f1, g0, g1, m', hw1, hw2, hw3, rfl, rfl, hR3⟩
      | (simp only [seval, if_false, true_and] at hw1 hw2 hw3 ⊢; exact ⟨f0, f1, g0, g1, m', hw1, hw2, hw3, rfl, rfl, hR3⟩)
  · simp only [seval, go_sem]
    refine gO ?_
    refine tT ?_; refine callW 1000 (l9say_n0 c link e0 e1 n0 n1 m ⟨5, 0, at_, vv, data⟩ (.slice Av data.length kv) z hv hR hI hm (by omega) (by omega) rfl (.inr (.inl rfl))) rfl rfl rfl rfl ?_; rintro u z1 A' hz1 ⟨f0, f1, g0, g1, m', hw1, hw2, hw3, rfl, rfl, hR3⟩; refine gO ?_
    refine fQ ?_
    rw [stepn_say0 c link e0 e1 n0 n1 _ hm (.inr (.inl rfl)) rfl]
    first
      | exact ⟨f0, f1, g0, g1, m', hw1, hw2, hw3, rfl, rfl, hR3⟩
      | (simp only [seval, if_false, true_and] at hw1 hw2 hw3 ⊢; exact ⟨f0, f1, g0, g1, m', hw1, hw2, hw3, rfl, rfl, hR3⟩)
  · simp only [seval, go_sem]
    refine gO ?_
    refine tT ?_; refine callW 1000 (l9say_n0 c link e0 e1 n0 n1 m ⟨6, 0, at_, vv, data⟩ (.slice Av data.length kv) z hv hR hI hm (by omega) (by omega) rfl (.inr (.inr rfl))) rfl rfl rfl rfl ?_; rintro u z1 A' hz1 ⟨f0, f1, g0, g1, m', hw1, hw2, hw3, rfl, rfl, hR3⟩; refine gO ?_
    refine fQ ?_
    rw [stepn_say0 c link e0 e1 n0 n1 _ hm (.inr (.inr rfl)) rfl]
    first
      | exact ⟨f0, f1, g0, g1, m', hw1, hw2, hw3, rfl, rfl, hR3⟩
      | (simp only [seval, if_false, true_and] at hw1 hw2 hw3 ⊢; exact ⟨f0, f1, g0, g1, m', hw1, hw2, hw3, rfl, rfl, hR3⟩)
  · simp only [seval, go_sem]
    refine gO ?_
    refine tT ?_; refine callW 1000 (l9net_n0 c link e0 e1 n0 n1 m ⟨7, 0, at_, vv, data⟩ (.slice Av data.length kv) z hv hR hI hN hNw hm rfl (.inl rfl)) rfl rfl rfl rfl ?_; rintro u z1 A' hz1 ⟨f0, f1, g0, g1, m', hw1, hw2, hw3, rfl, rfl, hR3⟩; refine gO ?_
    refine fQ ?_
    rw [stepn_hear0 c link e0 e1 n0 n1 _ hm rfl rfl]
    exact ⟨f0, f1, g0, g1, m', hw1, hw2, hw3, rfl, rfl, hR3⟩
  · simp only [seval, go_sem]
    refine gO ?_
    refine tT ?_; refine callW 1000 (l9net_n0 c link e0 e1 n0 n1 m ⟨8, 0, at_, vv, data⟩ (.slice Av data.length kv) z hv hR hI hN hNw hm rfl (.inr rfl)) rfl rfl rfl rfl ?_; rintro u z1 A' hz1 ⟨f0, f1, g0, g1, m', hw1, hw2, hw3, rfl, rfl, hR3⟩; refine gO ?_
    refine fQ ?_
    rw [step_lose0 c link e0 e1 n0 n1 _ rfl rfl]
    exact ⟨f0, f1, g0, g1, m', hw1, hw2, hw3, rfl, rfl, hR3⟩
theorem l9step_b0 (c : Cfg) (link : Int) (e0 e1 : End) (n0 n1 : List Msg) (m : WM) (ev : Evt) (v : Value) (z : Zc) (hv : By z ev.data v) (hR : WldR z e0 e1 n0 n1 m) (hW : WldI ⟨c, [e0, e1], [n0, n1], link⟩) (hw : ev.who = 0) (hk : ev.kind = 9) :
    Spec Tryz.prog 54 [wldV c link m, vEvt ev v] z (wldA e0 e1 n0 n1 m) (WldH c (step true ⟨c, [e0, e1], [n0, n1], link⟩ ev)) := by
  have hN : NetI n0 := hW.net 0 (by omega)
  rw [step_bend0 c link e0 e1 n0 n1 ev hk hw]
  obtain ⟨kind, who, at_, vv, data⟩ := ev
  dsimp only at *
  subst hw
  subst hk
  obtain ⟨Av, kv, rfl, hkv, hBv, hrv⟩ := hv.form
  (refine spec_enter1 Tryz.func54 ic54_ok fr54_ok Tryz.ntmps54 ?_; simp only [seval, go_sem, ic54, fr54])
  refine gO ?_
  refine tT ?_; refine callP (in_s 0 0 1 z) rfl rfl ?_; rintro _ _ - ⟨rfl, rfl⟩; refine gO ?_
  simp only [seval, go_sem, show inB 0 0 1 = true from rfl, show inB 1 0 1 = true from rfl]
  refine gO ?_
  refine tT ?_; refine callW 1000 (l9bend0 c link e0 e1 n0 n1 m ⟨9, 0, at_, vv, data⟩ (.slice Av data.length kv) z hv hR hN rfl rfl) rfl rfl rfl rfl ?_; rintro u z1 A' hz1 ⟨f0, f1, g0, g1, m', hw1, hw2, hw3, rfl, rfl, hR3⟩; refine gO ?_
  refine fQ ?_
  exact ⟨f0, f1, g0, g1, m', hw1, hw2, hw3, rfl, rfl, hR3⟩
theorem l9step_10 (c : Cfg) (link : Int) (e0 e1 : End) (n0 n1 : List Msg) (m : WM) (ev : Evt) (v : Value) (z : Zc) (hv : By z ev.data v) (hd : ev.data.length ≤ 100000) (hR : WldR z e0 e1 n0 n1 m) (hW : WldI ⟨c, [e0, e1], [n0, n1], link⟩) (hm : c.mode = 1) (hw : ev.who = 0) (hk : 1 ≤ ev.kind ∧ ev.kind ≤ 10) :
    Spec Tryz.prog 54 [wldV c link m, vEvt ev v] z (wldA e0 e1 n0 n1 m) (WldH c (step true ⟨c, [e0, e1], [n0, n1], link⟩ ev)) := by
  have hN : NetI n0 := hW.net 0 (by omega)
  by_cases h8 : ev.kind ≤ 8
  · exact l9step_n0 c link e0 e1 n0 n1 m ev v z hv hd hR hW hm hw ⟨hk.1, h8⟩
  · have h3 : ev.kind = 9 ∨ ev.kind = 10 := by omega
    rcases h3 with h | h
    · exact l9step_b0 c link e0 e1 n0 n1 m ev v z hv hR hW hw h
    · rw [step_move0 c link e0 e1 n0 n1 ev h hw]
      exact l9move0 c link e0 e1 n0 n1 m ev v z hv hR hW.link hw h
theorem l9step_n1 (c : Cfg) (link : Int) (e0 e1 : End) (n0 n1 : List Msg) (m : WM) (ev : Evt) (v : Value) (z : Zc) (hv : By z ev.data v) (hd : ev.data.length ≤ 100000) (hR : WldR z e0 e1 n0 n1 m) (hW : WldI ⟨c, [e0, e1], [n0, n1], link⟩) (hm : c.mode = 1) (hw : ev.who = 1) (hk : 1 ≤ ev.kind ∧ ev.kind ≤ 8) :
    Spec Tryz.prog 54 [wldV c link m, vEvt ev v] z (wldA e0 e1 n0 n1 m) (WldH c (step true ⟨c, [e0, e1], [n0, n1], link⟩ ev)) := by
  have hI : EndI c e1 := hW.ends 1 (by omega)
  have hN : NetI n1 := hW.net 1 (by omega)
  have hNw : NetI n0 := hW.net 0 (by omega)
  have hp60 := hI.put.1
  have hn30 := hNw.1
  have hn30' := hN.1
  obtain ⟨kind, who, at_, vv, data⟩ := ev
  dsimp only at *
  subst hw
  obtain ⟨Av, kv, rfl, hkv, hBv, hrv⟩ := hv.form
  (refine spec_enter1 Tryz.func54 ic54_ok fr54_ok Tryz.ntmps54 ?_; simp only [seval, go_sem, ic54, fr54])
  refine gO ?_
  refine tT ?_; refine callP (in_s 1 0 1 z) rfl rfl ?_; rintro _ _ - ⟨rfl, rfl⟩; refine gO ?_
  simp only [seval, go_sem, show inB 0 0 1 = true from rfl, show inB 1 0 1 = true from rfl]
  refine gO ?_
  have hk8 : kind = 1 ∨ kind = 2 ∨ kind = 3 ∨ kind = 4 ∨ kind = 5 ∨ kind = 6 ∨ kind = 7 ∨ kind = 8 := by omega
  rcases hk8 with rfl | rfl | rfl | rfl | rfl | rfl | rfl | rfl
  · simp only [seval, go_sem]
    refine gO ?_
    by_cases h60 : e1.put.length < 60
    · refine tT ?_; refine callW 1000 (l9put_n1 c link e0 e1 n0 n1 m data (.slice Av data.length kv) z hR hI hv hd hm h60) rfl rfl rfl rfl ?_; rintro u z1 A' hz1 ⟨e', he', hH⟩; refine gO ?_
      obtain ⟨f0, f1, g0, g1, m', hw1, hw2, hw3, rfl, rfl, hR3⟩ := hH
      refine fQ ?_
      rw [stepn_put1 c link e0 e1 n0 n1 _ hm rfl rfl, if_pos h60]
      subst he'
      exact ⟨f0, f1, g0, g1, m', hw1, hw2, hw3, rfl, rfl, hR3⟩
    · refine tT ?_; refine callW 1000 (l9put_f1 c link e0 e1 n0 n1 m (.slice Av data.length kv) z hR data hv (by omega)) rfl rfl rfl rfl ?_; rintro u z1 A' hz1 ⟨f0, f1, g0, g1, m', hw1, hw2, hw3, rfl, rfl, hR3⟩; refine gO ?_
      refine fQ ?_
      rw [stepn_put1 c link e0 e1 n0 n1 _ hm rfl rfl, if_neg h60]
      exact ⟨f0, f1, g0, g1, m', hw1, hw2, hw3, rfl, rfl, hR3⟩
  · simp only [seval, go_sem]
    refine gO ?_
    refine tT ?_; refine callW 1000 (l9send_n1 c link e0 e1 n0 n1 m z hR hI hm hn30) rfl rfl rfl rfl ?_; rintro u z1 A' hz1 ⟨f0, f1, g0, g1, m', hw1, hw2, hw3, rfl, rfl, hR3⟩; refine gO ?_
    refine fQ ?_
    rw [stepn_send1 c link e0 e1 n0 n1 _ hm rfl rfl]
    exact ⟨f0, f1, g0, g1, m', hw1, hw2, hw3, rfl, rfl, hR3⟩
  · simp only [seval, go_sem]
    refine gO ?_
    refine tT ?_; refine callW 1000 (l9tick_n1 c link e0 e1 n0 n1 m z hR hI hm hn30) rfl rfl rfl rfl ?_; rintro u z1 A' hz1 ⟨f0, f1, g0, g1, m', hw1, hw2, hw3, rfl, rfl, hR3⟩; refine gO ?_
    refine fQ ?_
    rw [stepn_tick1 c link e0 e1 n0 n1 _ hm rfl rfl]
    exact ⟨f0, f1, g0, g1, m', hw1, hw2, hw3, rfl, rfl, hR3⟩
  · simp only [seval, go_sem]
    refine gO ?_
    refine tT ?_; refine callW 1000 (l9say_n1 c link e0 e1 n0 n1 m ⟨4, 1, at_, vv, data⟩ (.slice Av data.length kv) z hv hR hI hm (by omega) (by omega) rfl (.inl rfl)) rfl rfl rfl rfl ?_; rintro u z1 A' hz1 ⟨f0, f1, g0, g1, m', hw1, hw2, hw3, rfl, rfl, hR3⟩; refine gO ?_
    refine fQ ?_
    rw [stepn_say1 c link e0 e1 n0 n1 _ hm (.inl rfl) rfl]
    first
      | exact ⟨f0, f1, g0, g1, m', hw1, hw2, hw3, rfl, rfl, hR3⟩
      | (simp only [seval, if_false, true_and] at hw1 hw2 hw3 ⊢; exact ⟨f0, f1, g0, g1, m', hw1, hw2, hw3, rfl, rfl, hR3⟩)
  · simp only [seval, go_sem]
    refine gO ?_
    refine tT ?_; refine callW 1000 (l9say_n1 c link e0 e1 n0 n1 m ⟨5, 1, at_, vv, data⟩ (.slice Av data.length kv) z hv hR hI hm (by omega) (by omega) rfl (.inr (.inl rfl))) rfl rfl rfl rfl ?_; rintro u z1 A' hz1 ⟨f0, f1, g0, g1, m', hw1, hw2, hw3, rfl, rfl, hR3⟩; refine gO ?_
    refine fQ ?_
    rw [stepn_say1 c link e0 e1 n0 n1 _ hm (.inr (.inl rfl)) rfl]
    first
      | exact ⟨f0, f1, g0, g1, m', hw1, hw2, hw3, rfl, rfl, hR3⟩
      | (simp only [seval, if_false, true_and] at hw1 hw2 hw3 ⊢; exact ⟨f0, f1, g0, g1, m', hw1, hw2, hw3, rfl, rfl, hR3⟩)
  · simp only [seval, go_sem]
    refine gO ?_
    refine tT ?_; refine callW 1000 (l9say_n1 c link e0 e1 n0 n1 m ⟨6, 1, at_, vv, data⟩ (.slice Av data.length kv) z hv hR hI hm (by omega) (by omega) rfl (.inr (.inr rfl))) rfl rfl rfl rfl ?_; rintro u z1 A' hz1 ⟨f0, f1, g0, g1, m', hw1, hw2, hw3, rfl, rfl, hR3⟩; refine gO ?_
    refine fQ ?_
    rw [stepn_say1 c link e0 e1 n0 n1 _ hm (.inr (.inr rfl)) rfl]
    first
      | exact ⟨f0, f1, g0, g1, m', hw1, hw2, hw3, rfl, rfl, hR3⟩
      | (simp only [seval, if_false, true_and] at hw1 hw2 hw3 ⊢; exact ⟨f0, f1, g0, g1, m', hw1, hw2, hw3, rfl, rfl, hR3⟩)
  · simp only [seval, go_sem]
    refine gO ?_
    refine tT ?_; refine callW 1000 (l9net_n1 c link e0 e1 n0 n1 m ⟨7, 1, at_, vv, data⟩ (.slice Av data.length kv) z hv hR hI hN hNw hm rfl (.inl rfl)) rfl rfl rfl rfl ?_; rintro u z1 A' hz1 ⟨f0, f1, g0, g1, m', hw1, hw2, hw3, rfl, rfl, hR3⟩; refine gO ?_
    refine fQ ?_
    rw [stepn_hear1 c link e0 e1 n0 n1 _ hm rfl rfl]
    exact ⟨f0, f1, g0, g1, m', hw1, hw2, hw3, rfl, rfl, hR3⟩
  · simp only [seval, go_sem]
    refine gO ?_
    refine tT ?_; refine callW 1000 (l9net_n1 c link e0 e1 n0 n1 m ⟨8, 1, at_, vv, data⟩ (.slice Av data.length kv) z hv hR hI hN hNw hm rfl (.inr rfl)) rfl rfl rfl rfl ?_; rintro u z1 A' hz1 ⟨f0, f1, g0, g1, m', hw1, hw2, hw3, rfl, rfl, hR3⟩; refine gO ?_
    refine fQ ?_
    rw [step_lose1 c link e0 e1 n0 n1 _ rfl rfl]
    exact ⟨f0, f1, g0, g1, m', hw1, hw2, hw3, rfl, rfl, hR3⟩
theorem l9step_b1 (c : Cfg) (link : Int) (e0 e1 : End) (n0 n1 : List Msg) (m : WM) (ev : Evt) (v : Value) (z : Zc) (hv : By z ev.data v) (hR : WldR z e0 e1 n0 n1 m) (hW : WldI ⟨c, [e0, e1], [n0, n1], link⟩) (hw : ev.who = 1) (hk : ev.kind = 9) :
    Spec Tryz.prog 54 [wldV c link m, vEvt ev v] z (wldA e0 e1 n0 n1 m) (WldH c (step true ⟨c, [e0, e1], [n0, n1], link⟩ ev)) := by
  have hN : NetI n1 := hW.net 1 (by omega)
  rw [step_bend1 c link e0 e1 n0 n1 ev hk hw]
  obtain ⟨kind, who, at_, vv, data⟩ := ev
  dsimp only at *
  subst hw
  subst hk
  obtain ⟨Av, kv, rfl, hkv, hBv, hrv⟩ := hv.form
  (refine spec_enter1 Tryz.func54 ic54_ok fr54_ok Tryz.ntmps54 ?_; simp only [seval, go_sem, ic54, fr54])
  refine gO ?_
  refine tT ?_; refine callP (in_s 1 0 1 z) rfl rfl ?_; rintro _ _ - ⟨rfl, rfl⟩; refine gO ?_
  simp only [seval, go_sem, show inB 0 0 1 = true from rfl, show inB 1 0 1 = true from rfl]
  refine gO ?_
  refine tT ?_; refine callW 1000 (l9bend1 c link e0 e1 n0 n1 m ⟨9, 1, at_, vv, data⟩ (.slice Av data.length kv) z hv hR hN rfl rfl) rfl rfl rfl rfl ?_; rintro u z1 A' hz1 ⟨f0, f1, g0, g1, m', hw1, hw2, hw3, rfl, rfl, hR3⟩; refine gO ?_
  refine fQ ?_
  exact ⟨f0, f1, g0, g1, m', hw1, hw2, hw3, rfl, rfl, hR3⟩
theorem l9step_11 (c : Cfg) (link : Int) (e0 e1 : End) (n0 n1 : List Msg) (m : WM) (ev : Evt) (v : Value) (z : Zc) (hv : By z ev.data v) (hd : ev.data.length ≤ 100000) (hR : WldR z e0 e1 n0 n1 m) (hW : WldI ⟨c, [e0, e1], [n0, n1], link⟩) (hm : c.mode = 1) (hw : ev.who = 1) (hk : 1 ≤ ev.kind ∧ ev.kind ≤ 10) :
    Spec Tryz.prog 54 [wldV c link m, vEvt ev v] z (wldA e0 e1 n0 n1 m) (WldH c (step true ⟨c, [e0, e1], [n0, n1], link⟩ ev)) := by
  have hN : NetI n1 := hW.net 1 (by omega)
  by_cases h8 : ev.kind ≤ 8
  · exact l9step_n1 c link e0 e1 n0 n1 m ev v z hv hd hR hW hm hw ⟨hk.1, h8⟩
  · have h3 : ev.kind = 9 ∨ ev.kind = 10 := by omega
    rcases h3 with h | h
    · exact l9step_b1 c link e0 e1 n0 n1 m ev v z hv hR hW hw h
    · rw [step_move1 c link e0 e1 n0 n1 ev h hw]
      exact l9move1 c link e0 e1 n0 n1 m ev v z hv hR hW.link hw h
def StepE (M K : Int) : Prop := ∀ (c : Cfg) (link : Int) (e0 e1 : End) (n0 n1 : List Msg) (m : WM) (ev : Evt) (v : Value) (z : Zc), By z ev.data v → ev.data.length ≤ 100000 → WldR z e0 e1 n0 n1 m → WldI ⟨c, [e0, e1], [n0, n1], link⟩ → c.mode = M → (ev.who = 0 ∨ ev.who = 1) → (1 ≤ ev.kind ∧ ev.kind ≤ K) →
    Spec Tryz.prog 54 [wldV c link m, vEvt ev v] z (wldA e0 e1 n0 n1 m) (WldH c (step true ⟨c, [e0, e1], [n0, n1], link⟩ ev))
theorem stepE_1 : StepE 1 10 := fun c link e0 e1 n0 n1 m ev v z h1 h2 h3 h4 h5 h6 h7 => h6.elim (fun h6 => l9step_10 c link e0 e1 n0 n1 m ev v z h1 h2 h3 h4 h5 h6 h7) fun h6 => l9step_11 c link e0 e1 n0 n1 m ev v z h1 h2 h3 h4 h5 h6 h7
set_option maxHeartbeats 2000000
def EvD (ev : Evt) : Prop := (1 ≤ ev.kind ∧ ev.kind ≤ 11) ∧ (ev.who = 0 ∨ ev.who = 1) ∧ ev.data.length ≤ 100
theorem EvC.d {ev : Evt} (h : EvC ev) : EvD ev := ⟨⟨h.1.1, by have := h.1.2; omega⟩, h.2⟩
theorem event_h (b : Nat) (A : Option Addr) (cc : Nat) (code : List Int) (p : Int) (c : Cfg) (link : Int) (m : WM) (z : Zc) (hb : By z code (.slice A code.length cc)) (hp : 0 ≤ p ∧ p ≤ 800000) (hl : code.length ≤ 2000) (hm : 1 ≤ c.mtu ∧ c.mtu ≤ 24) :
    Spec Tryz.prog 53 [.pointer (some ⟨b, 0, none⟩), wldV c link m, .bool true, .bool false] z (starL [rdA b A code.length cc p]) fun v z' A' => ∃ (ev : Evt) (B : Option Addr) (n k : Nat) (p' : Int), v = vEvt ev (.slice B n k) ∧ A' = starL [rdA b A code.length cc p'] ∧ By z' ev.data (.slice B n k) ∧ EvD ev ∧ ev.kind ≤ 10 ∧ p ≤ p' ∧ p' ≤ p + 200 := by
  (refine spec_enter1 Tryz.func53 ic53_ok fr53_ok Tryz.ntmps53 ?_; simp only [seval, go_sem, ic53, fr53])
  refine gO ?_
  refine tT ?_; refine callW 1000 (pick_s b A cc code p 2 z hb (by omega) hl (by omega)) rfl rfl rfl rfl ?_; rintro v1 z1 A' hz1 ⟨x, rfl, rfl, rfl, hx, hx2, _⟩; refine gO ?_
  refine tT ?_; refine callW 1000 (pick_s b A cc code (p + 1) 20 z hb (by omega) hl (by omega)) rfl rfl rfl rfl ?_; rintro v2 z1 A' hz2 ⟨y, rfl, rfl, rfl, hy, hy2, _⟩; refine gO ?_
  have hw : x = 0 ∨ x = 1 := by have := hx2 (by omega); omega
  (try simp only [seval, go_sem]); repeat' (first | (with_reducible refine vsI.id ?_; (try simp only [seval, go_sem])) | (with_reducible refine vcI_cond ?_; (try simp only [seval, go_sem])) | (with_reducible refine guardR.split (fun hg => ?_) (fun hg => ?_) <;> (try simp only [hg]) <;> simp only [seval, go_sem]) | (with_reducible refine condI.split (fun hg => ?_) (fun hg => ?_) <;> (try simp only [hg]) <;> (try simp only [seval, go_sem])) | (with_reducible refine callM.toT ?_))
  all_goals try (refine fQ ?_; first
    | exact ⟨⟨2, x, 0, 0, []⟩, none, 0, 0, _, rfl, rfl, Sl.nil _ _ _, ⟨by simp, hw, by simp⟩, by simp, by omega, by omega⟩
    | exact ⟨⟨3, x, 0, 0, []⟩, none, 0, 0, _, rfl, rfl, Sl.nil _ _ _, ⟨by simp, hw, by simp⟩, by simp, by omega, by omega⟩
    | exact ⟨⟨5, x, 0, 0, []⟩, none, 0, 0, _, rfl, rfl, Sl.nil _ _ _, ⟨by simp, hw, by simp⟩, by simp, by omega, by omega⟩
    | exact ⟨⟨6, x, 0, 0, []⟩, none, 0, 0, _, rfl, rfl, Sl.nil _ _ _, ⟨by simp, hw, by simp⟩, by simp, by omega, by omega⟩
    | exact ⟨⟨7, x, 0, 0, []⟩, none, 0, 0, _, rfl, rfl, Sl.nil _ _ _, ⟨by simp, hw, by simp⟩, by simp, by omega, by omega⟩
    | exact ⟨⟨8, x, 0, 0, []⟩, none, 0, 0, _, rfl, rfl, Sl.nil _ _ _, ⟨by simp, hw, by simp⟩, by simp, by omega, by omega⟩)
  · refine tT ?_; refine callW 1000 (pick_s b A cc code (p + 1 + 1) 2 z hb (by omega) hl (by omega)) rfl rfl rfl rfl ?_; rintro v3 z1 A' hz3 ⟨u, rfl, rfl, rfl, hu, hu2, _⟩; refine gO ?_
    have hu1 := hu2 (by omega)
    have w1 : IntKind.i64.wrap (c.mtu + u) = c.mtu + u := wrap_in (by omega) (by omega)
    simp only [w1]
    refine tT ?_; refine callW 1000 (bytes_s b A cc code (p + 1 + 1 + 1) (c.mtu + u) z hb (by omega) hl (by omega)) rfl rfl rfl rfl ?_; rintro v4 z4 A' hz4 ⟨out, B, k, p', rfl, rfl, hby, hlen, hp1, hp2⟩; refine gO ?_
    refine fQ ?_
    exact ⟨⟨1, x, 0, 0, out⟩, B, out.length, k, p', rfl, rfl, hby, ⟨by simp, hw, by show out.length ≤ 100; omega⟩, by simp, by omega, by omega⟩
  · refine tT ?_; refine callW 1000 (pick_s b A cc code (p + 1 + 1) 2 z hb (by omega) hl (by omega)) rfl rfl rfl rfl ?_; rintro v3 z1 A' hz3 ⟨u, rfl, rfl, rfl, hu, hu2, _⟩; refine gO ?_
    have hu1 := hu2 (by omega)
    have w1 : IntKind.i64.wrap (c.mtu + u) = c.mtu + u := wrap_in (by omega) (by omega)
    simp only [w1]
    refine tT ?_; refine callW 1000 (bytes_s b A cc code (p + 1 + 1 + 1) (c.mtu + u) z hb (by omega) hl (by omega)) rfl rfl rfl rfl ?_; rintro v4 z4 A' hz4 ⟨out, B, k, p', rfl, rfl, hby, hlen, hp1, hp2⟩; refine gO ?_
    refine fQ ?_
    exact ⟨⟨1, x, 0, 0, out⟩, B, out.length, k, p', rfl, rfl, hby, ⟨by simp, hw, by show out.length ≤ 100; omega⟩, by simp, by omega, by omega⟩
  · refine tT ?_; refine callW 1000 (pick_s b A cc code (p + 1 + 1) 2 z hb (by omega) hl (by omega)) rfl rfl rfl rfl ?_; rintro v3 z1 A' hz3 ⟨u, rfl, rfl, rfl, hu, hu2, _⟩; refine gO ?_
    have hu1 := hu2 (by omega)
    have w1 : IntKind.i64.wrap (c.mtu + u) = c.mtu + u := wrap_in (by omega) (by omega)
    simp only [w1]
    refine tT ?_; refine callW 1000 (bytes_s b A cc code (p + 1 + 1 + 1) (c.mtu + u) z hb (by omega) hl (by omega)) rfl rfl rfl rfl ?_; rintro v4 z4 A' hz4 ⟨out, B, k, p', rfl, rfl, hby, hlen, hp1, hp2⟩; refine gO ?_
    refine fQ ?_
    exact ⟨⟨1, x, 0, 0, out⟩, B, out.length, k, p', rfl, rfl, hby, ⟨by simp, hw, by show out.length ≤ 100; omega⟩, by simp, by omega, by omega⟩
  · refine tT ?_; refine callW 1000 (pick_s b A cc code (p + 1 + 1) 2 z hb (by omega) hl (by omega)) rfl rfl rfl rfl ?_; rintro v3 z1 A' hz3 ⟨u, rfl, rfl, rfl, hu, hu2, _⟩; refine gO ?_
    refine tT ?_; refine callW 1000 (pick_s b A cc code (p + 1 + 1 + 1) 2 z hb (by omega) hl (by omega)) rfl rfl rfl rfl ?_; rintro v4 z1 A' hz4 ⟨u', rfl, rfl, rfl, hu', hu2', _⟩; refine gO ?_
    refine fQ ?_
    exact ⟨⟨4, x, 0, _, []⟩, none, 0, 0, _, rfl, rfl, Sl.nil _ _ _, ⟨by simp, hw, by simp⟩, by simp, by omega, by omega⟩
  · refine tT ?_; refine callW 1000 (pick_s b A cc code (p + 1 + 1) 16 z hb (by omega) hl (by omega)) rfl rfl rfl rfl ?_; rintro v3 z1 A' hz3 ⟨u, rfl, rfl, rfl, hu, hu2, _⟩; refine gO ?_
    refine tT ?_; refine callW 1000 (pick_s b A cc code (p + 1 + 1 + 1) 255 z hb (by omega) hl (by omega)) rfl rfl rfl rfl ?_; rintro v4 z1 A' hz4 ⟨u', rfl, rfl, rfl, hu', hu2', _⟩; refine gO ?_
    refine fQ ?_
    exact ⟨⟨9, x, _, _, []⟩, none, 0, 0, _, rfl, rfl, Sl.nil _ _ _, ⟨by simp, hw, by simp⟩, by simp, by omega, by omega⟩
  · refine tT ?_; refine callW 1000 (pick_s b A cc code (p + 1 + 1) 4 z hb (by omega) hl (by omega)) rfl rfl rfl rfl ?_; rintro v3 z1 A' hz3 ⟨u, rfl, rfl, rfl, hu, hu2, _⟩; refine gO ?_
    (try simp only [seval, go_sem]); repeat' (first | (with_reducible refine vsI.id ?_; (try simp only [seval, go_sem])) | (with_reducible refine vcI_cond ?_; (try simp only [seval, go_sem])) | (with_reducible refine guardR.split (fun hg => ?_) (fun hg => ?_) <;> (try simp only [hg]) <;> simp only [seval, go_sem]) | (with_reducible refine condI.split (fun hg => ?_) (fun hg => ?_) <;> (try simp only [hg]) <;> (try simp only [seval, go_sem])) | (with_reducible refine callM.toT ?_))
    all_goals refine fQ ?_
    · exact ⟨⟨10, 0, 0, 0, []⟩, none, 0, 0, _, rfl, rfl, Sl.nil _ _ _, ⟨by simp, .inl rfl, by simp⟩, by simp, by omega, by omega⟩
    · exact ⟨⟨7, x, 0, 0, []⟩, none, 0, 0, _, rfl, rfl, Sl.nil _ _ _, ⟨by simp, hw, by simp⟩, by simp, by omega, by omega⟩
set_option maxHeartbeats 4000000
def PlayG (Q : Evt → Prop) (M : Int) (v : Value) (z : Zc) (A : Asrt) : Prop := ∃ (c : Cfg) (evs : List Evt) (B : Option Addr) (k : Nat) (link : Int) (m : WM) (e0 e1 : End) (n0 n1 : List Msg), v = .tuple #[vCfg c, .slice B evs.length k, wldV c link m] ∧ A = wldA e0 e1 n0 n1 m ∧ WldR z e0 e1 n0 n1 m ∧ WldI ⟨c, [e0, e1], [n0, n1], link⟩ ∧ Sl eRep z evs (.slice B evs.length k) ∧ CfgI c ∧ (0 < M → c.mode = M) ∧ (∀ e ∈ evs, Q e) ∧ evs.length ≤ 140
def DrawE (Q : Evt → Prop) (hard inj : Bool) : Prop := ∀ (b : Nat) (A : Option Addr) (cc : Nat) (code : List Int) (p : Int) (c : Cfg) (link : Int) (m : WM) (z : Zc), By z code (.slice A code.length cc) → (0 ≤ p ∧ p ≤ 800000) → code.length ≤ 2000 → (1 ≤ c.mtu ∧ c.mtu ≤ 24) →
    Spec Tryz.prog 53 [.pointer (some ⟨b, 0, none⟩), wldV c link m, .bool hard, .bool inj] z (starL [rdA b A code.length cc p]) fun v z' A' => ∃ (ev : Evt) (B : Option Addr) (n k : Nat) (p' : Int), v = vEvt ev (.slice B n k) ∧ A' = starL [rdA b A code.length cc p'] ∧ By z' ev.data (.slice B n k) ∧ EvD ev ∧ Q ev ∧ p ≤ p' ∧ p' ≤ p + 200
theorem drawE_h : DrawE (fun e => EvD e ∧ e.kind ≤ 10) true false := fun b A cc code p c link m z h1 h2 h3 h4 => (event_h b A cc code p c link m z h1 h2 h3 h4).mono fun v z' A' _ ⟨ev, B, n, k, p', g1, g2, g3, g4, g5, g6⟩ => ⟨ev, B, n, k, p', g1, g2, g3, g4, ⟨g4, g5⟩, g6⟩
theorem play_g (M : Int) (hM : M = 1 ∨ M = 2) (K : Int) (hS : StepE M K) (Q : Evt → Prop) (hQK : ∀ e, Q e → e.kind ≤ K) (hard inj : Bool) (hQ : DrawE Q hard inj) (b : Nat) (A : Option Addr) (cc : Nat) (code : List Int) (z : Zc) (hb : By z code (.slice A code.length cc)) (hlen : code.length ≤ 2000) :
    Spec Tryz.prog 24 [.pointer (some ⟨b, 0, none⟩), .int .i64 140, .int .i64 M, .bool hard, .bool inj] z (starL [rdA b A code.length cc 0]) (PlayG Q M) := by
  have hd : decide (M > 0) = true := decide_eq_true (by omega)
  (refine spec_enter1 Tryz.func24 ic24_ok fr24_ok Tryz.ntmps24 ?_; simp only [seval, go_sem, ic24, fr24])
  refine gO ?_
  refine tT ?_; refine callW 1000 (cfg_s b A cc code 0 z hb (by omega) hlen) rfl rfl rfl rfl ?_; rintro v1 z1 A1 hz1 ⟨⟨q1, q2, q3, q4, q5⟩, p1, rfl, rfl, hc1, hp1, hp1'⟩; refine gO ?_
  try simp only [hd]
  refine gO ?_
  have hc : CfgI ⟨M, q2, q3, q4, q5⟩ := ⟨hM, hc1.win, hc1.mps, hc1.mtu, hc1.tri⟩
  refine tT ?_; refine callO 1001 ((new_s ⟨M, q2, q3, q4, q5⟩ z1 (cfgOk_iff.2 hc)).mono fun _ _ _ _ h => wldH_of h (wldNew_I hc)) rfl rfl rfl ?_; rintro v2 z2 A2 hz2 ⟨e0, e1, n0, n1, m, link, rfl, rfl, hR, hW⟩; refine gO ?_
  refine tT ?_; refine callW 1000 (pick_s b A cc code p1 140 z2 ((hb.mono hz1).mono hz2) (by omega) hlen (by omega)) rfl rfl rfl rfl ?_; rintro v3 z3 A3 hz3 ⟨x, rfl, rfl, rfl, hx0, hx1, _⟩; refine gO ?_
  have hx1 := hx1 (by omega)
  obtain ⟨k0, rfl⟩ := Int.eq_ofNat_of_zero_le hx0
  refine loopV.toRow 90 4 rfl rfl (m := 0) (sz := 5) rfl (by omega) (fun b0 => ?_)
  simp only [seval, go_sem, rowSt, subV, subC, subE, subL]
  refine loop_upd (ι := PlayS) (n := 5) (fun s => z2 ≤ s.z ∧ s.k + s.evs.length = k0 ∧ p1 ≤ s.p ∧ s.p ≤ p1 + 1 + 200 * s.evs.length ∧ Els eRep s.z s.evs s.cs ∧ s.evs.length ≤ s.C ∧ (∀ e ∈ s.evs, Q e) ∧ WldR s.z s.e0 s.e1 s.n0 s.n1 s.m ∧ WldI ⟨⟨M, q2, q3, q4, q5⟩, [s.e0, s.e1], [s.n0, s.n1], s.link⟩) (fun s => [(15, .c (.v (.slice s.A s.evs.length s.C))), (16, .c (.v (.int .i64 s.k)))])
    (fun s => [(1000, .own (starL [rdA b A code.length cc s.p])), (1001, .own (wldA s.e0 s.e1 s.n0 s.n1 s.m)), (90, .own (rowA 35 5 (.slice s.A s.evs.length s.C) s.evs.length s.cs)), (3, .cells 31 [.v (.int .i64 M), .v (.int .i64 q2), .v (.int .i64 q3), .v (.int .i64 q4), .v (.int .i64 q5), .v (.slice s.m.E 2 s.m.EC), .v (.slice s.m.N 2 s.m.NC), .v (.int .i64 s.link)]), (2, .cells 24 [.v (.int .i64 M), .v (.int .i64 q2), .v (.int .i64 q3), .v (.int .i64 q4), .v (.int .i64 q5)]), (1, .cells 31 [.v (.int .i64 0), .v (.int .i64 0), .v (.int .i64 0), .v (.int .i64 0), .v (.int .i64 0), .v (.slice none 0 0), .v (.slice none 0 0), .v (.int .i64 0)]), (0, .cells 24 z5)])
    (fun s => s.z) (fun s => s.k) ⟨k0, p1 + 1, [], [], some ⟨b0, 0, none⟩, 0, e0, e1, n0, n1, link, m, z2⟩ ⟨Zc.rfl' _, by simp, by dsimp only; omega, by simp, rfl, Nat.le_refl _, by simp, hR, hW⟩ (by (simp only [wrI, wrR, anyL, st, List.append_nil, List.nil_append, List.cons_append]); exact rfl) ?_ ?_
  · simp only [List.length_nil]
    exact lX
  · rintro ⟨k, p, evs, cs, EA, EC, e0, e1, n0, n1, link, m, y⟩ ⟨hy, hk, hp2, hp3, hE, hEC, hEv, hR, hW⟩
    dsimp only at *
    refine gO ?_
    (with_reducible refine condI.split (fun hg => ?_) (fun hg => ?_) <;> (try simp only [hg]) <;> (try simp only [seval, go_sem]))
    · have hk0 : 0 < k := by have := of_decide_eq_true hg; omega
      refine gO ?_
      refine tT ?_; refine callW 1000 (hQ b A cc code p ⟨M, q2, q3, q4, q5⟩ link m y (((hb.mono hz1).mono hz2).mono hy) ⟨by omega, by omega⟩ hlen ⟨hc.mtu.1, hc.mtu.2⟩) rfl rfl rfl rfl ?_; rintro v4 z4 A4 hz4 ⟨eV, B, bn, bc, p', rfl, rfl, hby, hev, hqe, hp4, hp5⟩; refine gO ?_
      have hr4 := WldR.mono hz4 hR
      refine aT ?_; (refine appM_newF 90 atyV rfl rfl rfl rfl rfl rfl rfl (by simp [Value.oneCell']) (by omega) (fun A6 c6 hc6 hat6 => ?_)); simp only [seval, go_sem]
      refine gO ?_
      obtain ⟨hk1, hwho, hdl⟩ := hev
      have hEv' : ∀ x ∈ evs ++ [eV], Q x := fun x hx => by
        rcases List.mem_append.1 hx with hx | hx
        · exact hEv x hx
        · rw [List.mem_singleton.1 hx]; exact hqe
      have hW' := step_I (g := true) hW eV
      have hwk : IntKind.i64.wrap ((k : Int) - 1) = ((k - 1 : Nat) : Int) := by rw [wrap_in (by omega) (by omega)]; omega
      refine tT ?_; refine callW 1001 ((hS ⟨M, q2, q3, q4, q5⟩ link e0 e1 n0 n1 m eV (.slice B bn bc) z4 hby (by omega) hr4 hW rfl hwho ⟨hk1.1, hQK eV hqe⟩).mono fun _ _ _ _ h => wldH_of h hW') rfl rfl rfl rfl ?_; rintro v5 z5 A5 hz5 ⟨e0', e1', n0', n1', m', link', rfl, rfl, hR5, hW5⟩; refine gO ?_
      refine gO ?_
      simp only [hwk]
      refine ⟨⟨k - 1, p', evs ++ [eV], cs ++ [.int .i64 eV.kind, .int .i64 eV.who, .int .i64 eV.at_, .int .i64 eV.v, .slice B bn bc], A6, c6, e0', e1', n0', n1', link', m', z5⟩, ⟨Zc.trans' hy (Zc.trans' hz4 hz5), by dsimp only; rw [List.length_append, List.length_singleton]; omega, by dsimp only; omega, by dsimp only; rw [List.length_append, List.length_singleton]; omega, ?_, by dsimp only; rw [List.length_append, List.length_singleton]; omega, hEv', hR5, hW5⟩, by dsimp only; omega, ?_⟩
      · exact Els.append (hE.mono (Zc.trans' hz4 hz5)) (Els.single ⟨_, rfl, hby.mono hz5⟩)
      · simp only [List.length_append, List.length_singleton]
        exact lX
    · have hk0 : k = 0 := by have := of_decide_eq_false hg; omega
      subst hk0
      (try simp only [seval, go_sem])
      refine vsI.frzA 1001 rfl (RdA.wld hR) rfl (fun z6 hz6 hP6 => ?_)
      have hP6 := hP6 hz6
      simp only [seval, go_sem]
      (refine vsI.frzR 90 rfl rfl (fun A7 c7 z7 hv7 hc7 hz7 hr7 => ?_)); (first | subst hv7 | (injection hv7 with hv_1 hv_2 hv_3; subst hv_1; subst hv_3)); refine gO ?_
      refine tT ?_; refine callO 1001 ((copy_s ⟨M, q2, q3, q4, q5⟩ link e0 e1 n0 n1 m z7 (hP6.mono hz7) hW).mono fun _ _ _ _ h => wldH_of h hW) rfl rfl rfl ?_; rintro v8 z8 A8 hz8 ⟨e0', e1', n0', n1', m', link', rfl, rfl, hR8, hW8⟩; refine gO ?_
      (((try simp only [seval, go_sem]);repeat((with_reducible first|refine vJ ?_|refine vK ?_);try simp only [seval, go_sem])); refine FinV.own 1001 rfl ?_; simp only [finE, finS, gt, look, SV.toV, SC.toV, allV, tupV, zq1, zq2, zq3, zq4, Nat.reduceAdd, Nat.reduceEqDiff, reduceCtorEq, if_true, if_false, reduceIte, Nat.succ_ne_self, true_and, zq5, zq7, zq8])
      exact ⟨⟨M, q2, q3, q4, q5⟩, evs, _, _, link', m', e0', e1', n0', n1', rfl, rfl, hR8, hW8, ⟨_, _, _, rfl, hc7, hE.mono (Zc.trans' hz6 (Zc.trans' hz7 hz8)), hr7.mono hz8⟩, hc, fun _ => rfl, hEv, by omega⟩
def ic35 : IC := (xR (xt (.box 24 (xr 0)) 2 (xt (.box 38 (xr 1)) 3 (xt (.mv (xb false)) 4 .done))) (xR (xtF 3 2 6 (xtO 6 7 (xtL 7 8 (xtM 8 5 .done)))) (xR (xlA 2 5 9 (xm (.call 26 [xr 9]) 10 (xpM 10 11 (.op .p (.fad (xr 3) 1) (some 12) (some (11, true)) (.op .l (.ld (xr 12) 1 false) (some 13) (some (11, true)) (.op .m (.call 32 [xr 13]) (some 14) (some (11, true)) (xp (.pick (xr 11) (xr 14) (xb false)) 15 (xpM 15 16 (.op .p (.fad (xr 3) 0) (some 17) (some (16, true)) (.op .l (.ld (xr 17) 1 false) (some 18) (some (16, true)) (.op .m (.call 32 [xr 18]) (some 19) (some (16, true)) (xp (.pick (xr 16) (xr 19) (xb false)) 20 (xpM 20 21 (.op .p (.fad (xr 3) 1) (some 22) (some (21, true)) (.op .l (.ld (xr 22) 1 false) (some 23) (some (21, true)) (.op .p (.fad (xr 3) 0) (some 24) (some (21, true)) (.op .l (.ld (xr 24) 1 false) (some 25) (some (21, true)) (.op .p (.mv (xr 5)) (some 27) (some (21, true)) (.op .m (.call 33 [xr 23, xr 25]) (some 26) (some (21, true)) (.op .p (.bin .eql (xr 26) (xr 27)) (some 28) (some (21, true)) (xp (.pick (xr 21) (xr 28) (xb false)) 29 (xpM 29 30 (.op .p (.mv (xr 5)) (some 31) (some (30, true)) (.op .p (.fad (xr 2) 1) (some 32) (some (30, true)) (.op .l (.ld (xr 32) 1 false) (some 33) (some (30, true)) (.op .p (.bin .leq (xr 31) (xr 33)) (some 34) (some (30, true)) (xp (.pick (xr 30) (xr 34) (xb false)) 35 (xpM 35 36 (.op .p (.fad (xr 3) 3) (some 37) (some (36, true)) (.op .l (.ld (xr 37) 1 false) (some 38) (some (36, true)) (.op .p (.mv (xr 5)) (some 39) (some (36, true)) (.op .m (.call 34 [xr 38, (xi 0), xr 39]) (some 40) (some (36, true)) (xp (.pick (xr 36) (xr 40) (xb false)) 41 (xpM 41 42 (.op .p (.fad (xr 3) 4) (some 43) (some (42, true)) (.op .l (.ld (xr 43) 1 false) (some 44) (some (42, true)) (.op .p (.len (xr 44)) (some 45) (some (42, true)) (.op .p (.bin .leq (xr 45) (xi 24)) (some 46) (some (42, true)) (xp (.pick (xr 42) (xr 46) (xb false)) 47 (xpM 47 48 (.op .p (.fad (xr 3) 6) (some 49) (some (48, true)) (.op .l (.ld (xr 49) 1 false) (some 50) (some (48, true)) (.op .p (.fad (xr 2) 4) (some 51) (some (48, true)) (.op .l (.ld (xr 51) 1 false) (some 52) (some (48, true)) (.op .m (.call 34 [xr 50, (xi 0), xr 52]) (some 53) (some (48, true)) (xp (.pick (xr 48) (xr 53) (xb false)) 54 (xpM 54 55 (.op .p (.fad (xr 3) 8) (some 56) (some (55, true)) (.op .l (.ld (xr 56) 1 false) (some 57) (some (55, true)) (.op .m (.call 34 [xr 57, (xi 0), (xi 9999)]) (some 58) (some (55, true)) (xp (.pick (xr 55) (xr 58) (xb false)) 59 (xpM 59 60 (.op .p (.fad (xr 3) 8) (some 61) (some (60, true)) (.op .l (.ld (xr 61) 1 false) (some 62) (some (60, true)) (.op .p (.fad (xr 3) 1) (some 64) (some (60, true)) (.op .l (.ld (xr 64) 1 false) (some 65) (some (60, true)) (.op .m (.call 62 [xr 62]) (some 63) (some (60, true)) (.op .p (.bin .eql (xr 63) (xr 65)) (some 66) (some (60, true)) (xp (.pick (xr 60) (xr 66) (xb false)) 67 (xpM 67 68 (.op .l (.ld (xr 2) 5 true) (some 69) (some (68, true)) (.op .p (.fad (xr 3) 2) (some 70) (some (68, true)) (.op .l (.ld (xr 70) 1 false) (some 71) (some (68, true)) (.op .m (.call 63 [xr 69, xr 71]) (some 72) (some (68, true)) (xp (.pick (xr 68) (xr 72) (xb false)) 73 (xpM 73 74 (.op .l (.ld (xr 2) 5 true) (some 75) (some (74, true)) (.op .p (.fad (xr 3) 4) (some 76) (some (74, true)) (.op .l (.ld (xr 76) 1 false) (some 77) (some (74, true)) (.op .m (.call 63 [xr 75, xr 77]) (some 78) (some (74, true)) (xp (.pick (xr 74) (xr 78) (xb false)) 79 (xpM 79 4 .done)))))))))))))))))))))))))))))))))))))))))))))))))))))))))))))))))))))))) .ret)))
theorem ic35_ok : Tryz.f35.body.bind (trC Tryz.prog []) = some ic35 := by kernel_rfl
def fr35 : List FR := [(FR.t 4)]
theorem fr35_ok : fres Tryz.prog Tryz.f35.results.toList = some fr35 := by kernel_rfl
def ic69 : IC := (xR (xt (.box 38 (xr 0)) 1 (xt (.alc 38 [zI, zI, zS, zI, zS, zB, zI, zB, zI, zB]) 2 .done)) (xR (xpF 1 2 3 (xlO 3 4 (xpF 1 4 6 (xlO 6 7 (xm (.call 106 [xr 4]) 5 (xpF 1 2 9 (xm (.call 106 [xr 7]) 8 (xS 9 5 1 (xpF 1 4 10 (xS 10 8 1 .done)))))))))) (xR (xtA 1 10 11 (xS 2 11 10 .done)) .ret)))
theorem ic69_ok : Tryz.f69.body.bind (trC Tryz.prog []) = some ic69 := by kernel_rfl
def fr69 : List FR := [(FR.c 2 10 true)]
theorem fr69_ok : fres Tryz.prog Tryz.f69.results.toList = some fr69 := by kernel_rfl
def ic134 : IC := (xR (xt (.box 24 (xr 0)) 3 (xt (.box 38 (xr 1)) 4 (xt (.alc 38 [zI, zI, zS, zI, zS, zB, zI, zB, zI, zB]) 6 (xt (.mv (xb false)) 7 .done)))) (.seq (xR (xtA 3 5 10 (xtA 4 10 11 (xt (.call 35 [xr 10, xr 11]) 12 (xtT 12 13 .done)))) (.cond (xr 13) (xR (xt (.bld [zI, zI, zS, zI, zS, zB, zI, zB, zI, zB] []) 14 (xS 6 14 10 (xt (.mv (xb false)) 7 .done))) .ret) .skip)) (xR (xtA 4 10 15 (xt (.call 69 [xr 15]) 16 (xt (.alc 38 [zI, zI, zS, zI, zS, zB, zI, zB, zI, zB]) 8 (xS 8 16 10 .done)))) (.seq (xR (xtF 4 9 17 (xtO 17 18 (xtM 18 19 (xG (.mv (xr 2)) 20 19 false (xG (.len (xr 20)) 21 19 false (xG (.fad (xr 3) 3) 22 19 false (xG (.ld (xr 22) 1 false) 23 19 false (xG (.bin .gtr (xr 21) (xr 23)) 24 19 false (xt (.pick (xr 19) (xb true) (xr 24)) 25 .done))))))))) (.cond (xr 25) (xR (xtA 8 10 26 (xS 6 26 10 (xt (.mv (xb false)) 7 .done))) .ret) .skip)) (xR (xtM 2 27 (xtF 3 2 28 (xtO 28 29 (xt (.call 161 [xr 27, xr 29]) 30 (xtM 30 9 .done))))) (.seq (xR (xtF 4 4 31 (xtO 31 32 (xtL 32 33 (xtM 9 34 (xtL 34 35 (xt (.bin .add (xr 33) (xr 35)) 36 (xt (.bin .gtr (xr 36) (xi 24)) 37 .done))))))) (.cond (xr 37) (xR (xtA 8 10 38 (xS 6 38 10 (xt (.mv (xb false)) 7 .done))) .ret) .skip)) (xR (xtF 8 4 39 (xtO 39 40 (xtM 9 41 (xt (.app 36 (xr 40) (xr 41)) 42 (xt (.call 145 [xr 42]) 43 (xtF 8 4 44 (xS 44 43 1 .done))))))) (xR (xtA 8 10 45 (xS 6 45 10 (xt (.mv (xb true)) 7 .done))) .ret))))))))
theorem ic134_ok : Tryz.f134.body.bind (trC Tryz.prog []) = some ic134 := by kernel_rfl
def fr134 : List FR := [(FR.c 6 10 true), (FR.t 7)]
theorem fr134_ok : fres Tryz.prog Tryz.f134.results.toList = some fr134 := by kernel_rfl
def ic162 : IC := (xR (xt (.box 24 (xr 1)) 4 (xt (.alc 52 [zI, zI, zI, zB, zB, zI, zI, zI, zS]) 6 (xt (.mv (xb false)) 7 .done))) (xR (xtM 0 11 (xtN 11 12 (xtF 12 2 13 (xtO 13 14 (xtL 14 15 (xtM 15 8 .done)))))) (.seq (xR (xtM 0 16 (xtN 16 17 (xtF 17 9 18 (xtO 18 19 (xtM 19 20 (xG (.mv (xr 0)) 21 20 false (xG (.nil (xr 21)) 22 20 false (xG (.fad (xr 22) 5) 23 20 false (xG (.ld (xr 23) 1 false) 24 20 false (xt (.pick (xr 20) (xb true) (xr 24)) 25 (xtM 25 26 (xG (.mv (xr 0)) 27 26 false (xG (.nil (xr 27)) 28 26 false (xG (.fad (xr 28) 7) 29 26 false (xG (.ld (xr 29) 1 false) 30 26 false (xt (.pick (xr 26) (xb true) (xr 30)) 31 (xtM 31 32 (xG (.mv (xr 0)) 33 32 false (xG (.nil (xr 33)) 34 32 false (xG (.fad (xr 34) 3) 35 32 false (xG (.ld (xr 35) 1 false) 36 32 false (xG (.mv (xr 8)) 37 32 false (xG (.bin .eql (xr 36) (xr 37)) 38 32 false (xG (.mv (xr 38)) 39 32 false (xG (.mv (xr 8)) 40 39 true (xG (.fad (xr 4) 1) 41 39 true (xG (.ld (xr 41) 1 false) 42 39 true (xG (.bin .eql (xr 40) (xr 42)) 43 39 true (xG (.mv (xr 43)) 44 39 true (xG (.mv (xr 0)) 45 44 false (xG (.nil (xr 45)) 46 44 false (xG (.fad (xr 46) 4) 47 44 false (xG (.ld (xr 47) 1 false) 48 44 false (xG (.len (xr 48)) 49 44 false (xG (.bin .eql (xr 49) (xi 0)) 50 44 false (xG (.pick (xr 44) (xb true) (xr 50)) 51 39 true (xG (.mv (xr 51)) 52 39 true (xG (.mv (xr 0)) 53 52 false (xG (.nil (xr 53)) 54 52 false (xG (.fad (xr 54) 8) 55 52 false (xG (.ld (xr 55) 1 false) 56 52 false (xG (.mv (xr 8)) 57 52 false (xG (.bin .add (xr 56) (xr 57)) 58 52 false (xG (.bin .eql (xr 58) (xi 9999)) 59 52 false (xG (.pick (xr 52) (xb true) (xr 59)) 60 39 true (xG (.pick (xr 39) (xr 60) (xb false)) 61 32 false (xt (.pick (xr 32) (xb true) (xr 61)) 62 .done))))))))))))))))))))))))))))))))))))))))))))))) (.cond (xr 62) (xR (xt (.bld [zI, zI, zI, zB, zB, zI, zI, zI, zS] []) 63 (xS 6 63 9 (xt (.mv (xb false)) 7 .done))) .ret) .skip)) (.seq (xR (xtM 0 64 (xtN 64 65 (xtF 65 3 66 (xtO 66 67 (xtM 8 68 (xt (.bin .eql (xr 67) (xr 68)) 69 .done)))))) (.cond (xr 69) (xR (xpM 0 70 (xpM 0 71 (xpN 71 72 (xpF 72 2 73 (xlO 73 74 (xpM 0 75 (xpN 75 76 (xpF 76 4 77 (xlO 77 78 (xp (.iad (xr 78) (xi 0) 3) 79 (xlA 79 3 80 (xm (.bsl 63 3 1 [zI, zI, zS] [(0, (xr 80))]) 81 (xm (.app 36 (xr 74) (xr 81)) 82 (xpN 70 83 (xpF 83 2 84 (xS 84 82 1 .done)))))))))))))))) (xR (xtM 0 85 (xtM 0 86 (xtN 86 87 (xtF 87 4 88 (xtO 88 89 (xt (.slc (xr 89) (some (xi 1)) none 3) 90 (xtN 85 91 (xtF 91 4 92 (xS 92 90 1 .done))))))))) (xQ (xtM 0 93 (xtM 0 94 (xtN 94 95 (xtF 95 0 96 (xtO 96 97 (xt (.call 175 [xr 97]) 98 (xtN 93 99 (xtF 99 0 100 (xS 100 98 1 .done)))))))))))) .skip)) (xR (xpM 0 101 (xpN 101 102 (xpF 102 2 103 (xlO 103 104 (xpM 0 105 (xpN 105 106 (xpF 106 3 107 (xlO 107 108 (xpI 104 108 3 109 (xlA 109 3 110 (xm (.alc 63 [zI, zI, zS]) 9 (xS 9 110 3 .done)))))))))))) (.seq (.join [] (xpM 0 111 (xpN 111 112 (xpF 112 1 113 (xlO 113 114 (xpM 0 115 (xpN 115 116 (xpF 116 3 117 (xlO 117 118 (xp (.bin .add (xr 114) (xr 118)) 119 (xp (.bin .rem (xr 119) (xi 8)) 120 (xpM 2 121 (xpF 9 0 122 (xlO 122 123 (xpF 9 1 124 (xlO 124 125 (xpF 9 2 126 (xlO 126 127 (.alt (xm (.call 29 [xr 127]) 128 (xp (.bld [zI, zI, zI, zB, zB, zI, zI, zI, zS] [(0, (1, (xi 1))), (1, (1, (xr 120))), (2, (1, (xr 121))), (6, (1, (xr 123))), (7, (1, (xr 125))), (8, (1, (xr 128)))]) 129 (xm (.alc 52 [zI, zI, zI, zB, zB, zI, zI, zI, zS]) 10 (xS 10 129 9 .done)))) (xm (.alc 52 [zI, zI, zI, zB, zB, zI, zI, zI, zS]) 10 (xm (.call 29 [xr 127]) 128 (xp (.bld [zI, zI, zI, zB, zB, zI, zI, zI, zS] [(0, (1, (xi 1))), (1, (1, (xr 120))), (2, (1, (xr 121))), (6, (1, (xr 123))), (7, (1, (xr 125))), (8, (1, (xr 128)))]) 129 (xS 10 129 9 .done))))))))))))))))))))))) (xR (xtM 0 130 (xtN 130 131 (xtF 131 3 132 (xtO 132 133 (xt (.bin .add (xr 133) (xi 1)) 134 (xtN 130 135 (xtF 135 3 136 (xS 136 134 1 .done)))))))) (xR (xtA 10 9 137 (xS 6 137 9 (xt (.mv (xb true)) 7 .done))) .ret))))))))
theorem ic162_ok : Tryz.f162.body.bind (trC Tryz.prog []) = some ic162 := by kernel_rfl
def fr162 : List FR := [(FR.c 6 9 true), (FR.t 7)]
theorem fr162_ok : fres Tryz.prog Tryz.f162.results.toList = some fr162 := by kernel_rfl
def ic135 : IC := (xR (xt (.box 24 (xr 0)) 3 (xt (.box 38 (xr 1)) 4 (xt (.alc 38 [zI, zI, zS, zI, zS, zB, zI, zB, zI, zB]) 6 (xt (.alc 52 [zI, zI, zI, zB, zB, zI, zI, zI, zS]) 7 (xt (.mv (xb false)) 8 .done))))) (.seq (xR (xtA 3 5 12 (xtA 4 10 13 (xt (.call 35 [xr 12, xr 13]) 14 (xtT 14 15 (xtM 15 16 (xG (.mv (xr 2)) 17 16 false (xG (.call 32 [xr 17]) 18 16 false (xG (.not (xr 18)) 19 16 false (xt (.pick (xr 16) (xb true) (xr 19)) 20 .done))))))))) (.cond (xr 20) (xR (xt (.bld [zI, zI, zS, zI, zS, zB, zI, zB, zI, zB] []) 21 (xt (.bld [zI, zI, zI, zB, zB, zI, zI, zI, zS] []) 22 (xS 6 21 10 (xS 7 22 9 (xt (.mv (xb false)) 8 .done))))) .ret) .skip)) (xR (xtA 4 10 23 (xt (.call 69 [xr 23]) 24 (xt (.alc 38 [zI, zI, zS, zI, zS, zB, zI, zB, zI, zB]) 9 (xS 9 24 10 .done)))) (xR (xtA 3 5 26 (xtM 2 27 (xt (.call 162 [xr 9, xr 26, xr 27]) 28 (xtM 28 25 (xtE 25 0 29 (xtE 25 1 30 (xt (.alc 52 [zI, zI, zI, zB, zB, zI, zI, zI, zS]) 10 (xS 10 29 9 (xtM 30 11 .done))))))))) (.seq (.reg [6, 7] (xlA 9 10 31 (xlA 10 9 33 (xpM 11 34 (xm (.call 69 [xr 31]) 32 (.op .m (.sto (xr 6) (xr 32) 10) none none (.op .m (.sto (xr 7) (xr 33) 9) none none (xpM 34 8 .done)))))))) .ret)))))
theorem ic135_ok : Tryz.f135.body.bind (trC Tryz.prog []) = some ic135 := by kernel_rfl
def fr135 : List FR := [(FR.c 6 10 true), (FR.c 7 9 true), (FR.t 8)]
theorem fr135_ok : fres Tryz.prog Tryz.f135.results.toList = some fr135 := by kernel_rfl
def ic129 : IC := (xR (xt (.box 24 (xr 0)) 3 (xt (.box 38 (xr 1)) 4 (xt (.box 52 (xr 2)) 5 (xt (.alc 38 [zI, zI, zS, zI, zS, zB, zI, zB, zI, zB]) 6 .done)))) (.seq (xR (xtA 3 5 9 (xtA 4 10 10 (xt (.call 35 [xr 9, xr 10]) 11 (xtT 11 12 (xtM 12 13 (xG (.ld (xr 5) 9 true) 14 13 false (xG (.call 60 [xr 14]) 15 13 false (xG (.not (xr 15)) 16 13 false (xt (.pick (xr 13) (xb true) (xr 16)) 17 (xtM 17 18 (xG (.fad (xr 5) 0) 19 18 false (xG (.ld (xr 19) 1 false) 20 18 false (xG (.bin .neq (xr 20) (xi 1)) 21 18 false (xG (.mv (xr 21)) 22 18 false (xG (.fad (xr 5) 0) 23 22 true (xG (.ld (xr 23) 1 false) 24 22 true (xG (.bin .neq (xr 24) (xi 2)) 25 22 true (xG (.pick (xr 22) (xr 25) (xb false)) 26 18 false (xt (.pick (xr 18) (xb true) (xr 26)) 27 .done))))))))))))))))))) (.cond (xr 27) (xR (xt (.bld [zI, zI, zS, zI, zS, zB, zI, zB, zI, zB] []) 28 (xS 6 28 10 .done)) .ret) .skip)) (xR (xtA 4 10 29 (xt (.call 69 [xr 29]) 30 (xt (.alc 38 [zI, zI, zS, zI, zS, zB, zI, zB, zI, zB]) 7 (xS 7 30 10 .done)))) (.seq (xR (xtF 4 9 31 (xtO 31 32 .done)) (.cond (xr 32) (xR (xtA 7 10 33 (xS 6 33 10 .done)) .ret) .skip)) (xR (xtF 4 1 34 (xtO 34 35 (xtF 5 2 36 (xtO 36 37 (xt (.call 33 [xr 35, xr 37]) 38 (xtM 38 8 .done)))))) (.seq (xR (xtM 8 39 (xtF 4 2 40 (xtO 40 41 (xtL 41 42 (xt (.bin .gtr (xr 39) (xr 42)) 43 .done))))) (.cond (xr 43) (xR (xtF 7 9 44 (.op .t (.sto (xr 44) (xb true) 1) none none .done)) (xR (xtA 7 10 45 (xS 6 45 10 .done)) .ret)) .skip)) (xR (xtF 7 2 46 (xtO 46 47 (xtM 8 48 (xt (.slc (xr 47) (some (xr 48)) none 3) 49 (xt (.call 145 [xr 49]) 50 (xtF 7 2 51 (xS 51 50 1 .done))))))) (xR (xtF 4 3 52 (xtO 52 53 (xtM 8 54 (xt (.bin .sub (xr 53) (xr 54)) 55 (xt (.mx (xi 0) (xr 55)) 56 (xtF 7 3 57 (xS 57 56 1 .done))))))) (xR (xtF 5 2 58 (xtO 58 59 (xtF 7 1 60 (xS 60 59 1 .done)))) (xR (xtF 7 8 61 (xtO 61 62 (xtM 8 63 (xt (.bin .add (xr 62) (xr 63)) 64 (xtF 7 8 65 (xS 65 64 1 .done)))))) (.seq (xR (xtF 5 0 66 (xtO 66 67 (xt (.bin .eql (xr 67) (xi 2)) 68 .done))) (.cond (xr 68) (xQ (xtF 5 5 69 (xtO 69 70 (xt (.bin .eql (xr 70) (xi 2)) 71 (xtF 7 7 72 (xS 72 71 1 .done)))))) .skip)) (.seq (xR (xtF 5 4 73 (xtO 73 74 (xtM 74 75 (xG (.fad (xr 7) 5) 76 75 true (xG (.ld (xr 76) 1 false) 77 75 true (xt (.pick (xr 75) (xr 77) (xb false)) 78 .done)))))) (.cond (xr 78) (xQ (xtF 7 5 79 (.op .t (.sto (xr 79) (xb false) 1) none none (xtF 7 6 80 (.op .t (.sto (xr 80) (xi 0) 1) none none (xtF 7 3 81 (.op .t (.sto (xr 81) (xi 0) 1) none none .done))))))) .skip)) (.seq (xR (xtF 5 0 82 (xtO 82 83 (xt (.bin .eql (xr 83) (xi 2)) 84 (xtM 84 85 (xG (.fad (xr 5) 5) 86 85 true (xG (.ld (xr 86) 1 false) 87 85 true (xG (.bin .eql (xr 87) (xi 1)) 88 85 true (xt (.pick (xr 85) (xr 88) (xb false)) 89 (xtM 89 90 (xG (.fad (xr 7) 5) 91 90 true (xG (.ld (xr 91) 1 false) 92 90 true (xG (.not (xr 92)) 93 90 true (xt (.pick (xr 90) (xr 93) (xb false)) 94 .done))))))))))))) (.cond (xr 94) (xQ (xtF 7 3 95 (.op .t (.sto (xr 95) (xi 0) 1) none none .done))) .skip)) (xR (xtA 7 10 96 (xS 6 96 10 .done)) .ret))))))))))))))
theorem ic129_ok : Tryz.f129.body.bind (trC Tryz.prog []) = some ic129 := by kernel_rfl
def fr129 : List FR := [(FR.c 6 10 true)]
theorem fr129_ok : fres Tryz.prog Tryz.f129.results.toList = some fr129 := by kernel_rfl
def ic137 : IC := (xR (xt (.box 24 (xr 0)) 4 (xt (.box 38 (xr 1)) 5 (xt (.alc 38 [zI, zI, zS, zI, zS, zB, zI, zB, zI, zB]) 8 (xt (.alc 52 [zI, zI, zI, zB, zB, zI, zI, zI, zS]) 9 (xt (.mv (xb false)) 10 .done))))) (.seq (xR (xtA 4 5 12 (xtA 5 10 13 (xt (.call 35 [xr 12, xr 13]) 14 (xtT 14 15 (xtM 15 16 (xG (.mv (xr 2)) 17 16 false (xG (.call 32 [xr 17]) 18 16 false (xG (.not (xr 18)) 19 16 false (xt (.pick (xr 16) (xb true) (xr 19)) 20 .done))))))))) (.cond (xr 20) (xR (xt (.bld [zI, zI, zS, zI, zS, zB, zI, zB, zI, zB] []) 21 (xt (.bld [zI, zI, zI, zB, zB, zI, zI, zI, zS] []) 22 (xS 8 21 10 (xS 9 22 9 (xt (.mv (xb false)) 10 .done))))) .ret) .skip)) (xR (xtA 5 10 23 (xt (.call 69 [xr 23]) 24 (xt (.alc 38 [zI, zI, zS, zI, zS, zB, zI, zB, zI, zB]) 11 (xS 11 24 10 .done)))) (.seq (.block 0 (xR (xtF 5 9 26 (xtO 26 27 (xtM 27 28 (xG (.fad (xr 5) 2) 29 28 false (xG (.ld (xr 29) 1 false) 30 28 false (xG (.len (xr 30)) 31 28 false (xG (.bin .eql (xr 31) (xi 0)) 32 28 false (xG (.mv (xr 32)) 33 28 false (xG (.fad (xr 5) 7) 34 33 true (xG (.ld (xr 34) 1 false) 35 33 true (xG (.not (xr 35)) 36 33 true (xG (.pick (xr 33) (xr 36) (xb false)) 37 28 false (xG (.mv (xr 37)) 38 28 false (xG (.fad (xr 5) 5) 39 38 true (xG (.ld (xr 39) 1 false) 40 38 true (xG (.not (xr 40)) 41 38 true (xG (.pick (xr 38) (xr 41) (xb false)) 42 28 false (xt (.pick (xr 28) (xb true) (xr 42)) 43 (xtM 43 25 .done))))))))))))))))))) (.cond (xr 25) (xR (xtA 11 10 44 (xt (.bld [zI, zI, zI, zB, zB, zI, zI, zI, zS] []) 45 (xS 8 44 10 (xS 9 45 9 (xt (.mv (xb false)) 10 .done))))) .ret) (xR (xtF 5 6 47 (xtO 47 48 (xtF 4 4 49 (xtO 49 50 (xt (.bin .eql (xr 48) (xr 50)) 51 (xtM 51 46 .done)))))) (.cond (xr 46) (xR (xtF 11 9 52 (.op .t (.sto (xr 52) (xb true) 1) none none .done)) (xR (xtA 11 10 53 (xt (.bld [zI, zI, zI, zB, zB, zI, zI, zI, zS] []) 54 (xS 8 53 10 (xS 9 54 9 (xt (.mv (xb false)) 10 .done))))) .ret)) .skip))))) (xR (xtF 11 5 55 (.op .t (.sto (xr 55) (xb true) 1) none none .done)) (xR (xtF 11 6 56 (xtO 56 57 (xt (.bin .add (xr 57) (xi 1)) 58 (xtF 11 6 59 (xS 59 58 1 .done))))) (.seq (.reg [8, 9] (xlA 11 10 60 (xpM 2 61 (xpM 3 62 (xm (.call 163 [xr 62]) 63 (xp (.bld [zI, zI, zI, zB, zB, zI, zI, zI, zS] [(0, (1, (xi 2))), (2, (1, (xr 61))), (3, (1, (xb true))), (5, (1, (xr 63)))]) 64 (.op .m (.sto (xr 8) (xr 60) 10) none none (.op .m (.sto (xr 9) (xr 64) 9) none none (xp (.mv (xb true)) 10 .done))))))))) .ret)))))))
theorem ic137_ok : Tryz.f137.body.bind (trC Tryz.prog []) = some ic137 := by kernel_rfl
def fr137 : List FR := [(FR.c 8 10 true), (FR.c 9 9 true), (FR.t 10)]
theorem fr137_ok : fres Tryz.prog Tryz.f137.results.toList = some fr137 := by kernel_rfl
def ic36 : IC := (xR (xt (.box 42 (xr 0)) 1 (xt (.mv (xb false)) 2 .done)) (xR (xpF 1 0 3 (xlO 3 4 (xm (.call 32 [xr 4]) 5 (xpM 5 6 (.op .p (.fad (xr 1) 1) (some 7) (some (6, true)) (.op .l (.ld (xr 7) 1 false) (some 8) (some (6, true)) (.op .m (.call 34 [xr 8, (xi 0), (xi 9999)]) (some 9) (some (6, true)) (xp (.pick (xr 6) (xr 9) (xb false)) 10 (xpM 10 11 (.op .p (.fad (xr 1) 1) (some 12) (some (11, true)) (.op .l (.ld (xr 12) 1 false) (some 13) (some (11, true)) (.op .p (.fad (xr 1) 0) (some 15) (some (11, true)) (.op .l (.ld (xr 15) 1 false) (some 16) (some (11, true)) (.op .m (.call 62 [xr 13]) (some 14) (some (11, true)) (.op .p (.bin .eql (xr 14) (xr 16)) (some 17) (some (11, true)) (xp (.pick (xr 11) (xr 17) (xb false)) 18 (xpM 18 19 (.op .p (.fad (xr 1) 2) (some 20) (some (19, true)) (.op .l (.ld (xr 20) 2 true) (some 21) (some (19, true)) (.op .m (.call 64 [xr 21]) (some 22) (some (19, true)) (xp (.pick (xr 19) (xr 22) (xb false)) 23 (xpM 23 2 .done)))))))))))))))))))))) .ret))
theorem ic36_ok : Tryz.f36.body.bind (trC Tryz.prog []) = some ic36 := by kernel_rfl
def fr36 : List FR := [(FR.t 2)]
theorem fr36_ok : fres Tryz.prog Tryz.f36.results.toList = some fr36 := by kernel_rfl
def ic70 : IC := (xR (xt (.box 42 (xr 0)) 1 (xt (.alc 42 [zI, zI, zI, zS, zB, zB, zB]) 2 .done)) (xR (xtF 1 2 3 (xtF 3 1 4 (xtO 4 5 (xt (.call 29 [xr 5]) 6 (xtF 1 2 7 (xtF 7 1 8 (xS 8 6 1 .done))))))) (xR (xtA 1 7 9 (xS 2 9 7 .done)) .ret)))
theorem ic70_ok : Tryz.f70.body.bind (trC Tryz.prog []) = some ic70 := by kernel_rfl
def fr70 : List FR := [(FR.c 2 7 true)]
theorem fr70_ok : fres Tryz.prog Tryz.f70.results.toList = some fr70 := by kernel_rfl
def ic164 : IC := (xR (xt (.box 42 (xr 0)) 3 (xt (.alc 52 [zI, zI, zI, zB, zB, zI, zI, zI, zS]) 6 .done)) (xR (xtF 3 0 7 (xtO 7 8 (xtM 2 9 (xtM 1 10 (xt (.bld [zI, zI, zI, zB, zB, zI, zI, zI, zS] [(0, (1, (xi 2))), (2, (1, (xr 8))), (4, (1, (xr 9))), (5, (1, (xr 10)))]) 11 (xS 6 11 9 .done)))))) .ret))
theorem ic164_ok : Tryz.f164.body.bind (trC Tryz.prog []) = some ic164 := by kernel_rfl
def fr164 : List FR := [(FR.c 6 9 true)]
theorem fr164_ok : fres Tryz.prog Tryz.f164.results.toList = some fr164 := by kernel_rfl
def ic159 : IC := (xR (xt (.box 24 (xr 1)) 4 (xt (.box 52 (xr 2)) 5 (xt (.mv (.const zS)) 6 (xt (.mv (.const zS)) 7 .done)))) (.seq (.block 0 (xR (xtM 0 12 (xtN 12 13 (xtF 13 6 14 (xtO 14 15 (xtM 15 16 (xG (.fad (xr 5) 0) 17 16 false (xG (.ld (xr 17) 1 false) 18 16 false (xG (.bin .eql (xr 18) (xi 2)) 19 16 false (xG (.mv (xr 19)) 20 16 false (xG (.fad (xr 5) 3) 21 20 true (xG (.ld (xr 21) 1 false) 22 20 true (xG (.not (xr 22)) 23 20 true (xG (.pick (xr 20) (xr 23) (xb false)) 24 16 false (xt (.pick (xr 16) (xb true) (xr 24)) 25 (xtM 25 11 .done))))))))))))))) (.cond (xr 11) (xR (xt (.mv (.const zS)) 6 (xt (.mv (.const zS)) 7 .done)) .ret) (xR (xtF 5 0 27 (xtO 27 28 (xt (.bin .eql (xr 28) (xi 2)) 29 (xtM 29 26 .done)))) (.cond (xr 26) (xR (xtM 0 30 (xtN 30 31 (xtF 31 4 32 (.op .t (.sto (xr 32) (xb false) 1) none none .done)))) (xR (xpM 0 33 (xpN 33 34 (xlA 34 7 35 (xpM 0 36 (xpN 36 37 (xpF 37 5 38 (xlO 38 39 (xm (.call 163 [xr 39]) 40 (xm (.call 164 [xr 35, xr 40, (xb true)]) 41 (xp (.mv (.const zS)) 6 (xm (.bsl 52 9 1 [zI, zI, zI, zB, zB, zI, zI, zI, zS] [(0, (xr 41))]) 42 (xpM 42 7 .done)))))))))))) .ret)) (xR (xtM 0 44 (xtN 44 45 (xtF 45 5 46 (xtO 46 47 (xtM 47 43 .done))))) (.cond (xr 43) (xR (xtM 0 48 (xtN 48 49 (xtA 49 7 50 (xt (.call 164 [xr 50, (xi 2), (xb false)]) 51 (xt (.bsl 52 9 1 [zI, zI, zI, zB, zB, zI, zI, zI, zS] [(0, (xr 51))]) 52 (xt (.mv (.const zS)) 6 (xtM 52 7 .done))))))) .ret) (xR (xpF 5 1 54 (xlO 54 55 (xpM 0 56 (xpN 56 57 (xpF 57 0 58 (xlO 58 59 (xp (.bin .eql (xr 55) (xr 59)) 60 (xpM 60 53 .done)))))))) (.cond (xr 53) (.seq (xR (xtF 5 7 61 (xtO 61 62 (xtF 4 3 63 (xtO 63 64 (xt (.bin .gtr (xr 62) (xr 64)) 65 (xtM 65 66 (xG (.fad (xr 5) 8) 67 66 false (xG (.ld (xr 67) 1 false) 68 66 false (xG (.len (xr 68)) 69 66 false (xG (.fad (xr 4) 2) 70 66 false (xG (.ld (xr 70) 1 false) 71 66 false (xG (.bin .gtr (xr 69) (xr 71)) 72 66 false (xt (.pick (xr 66) (xb true) (xr 72)) 73 (xtM 73 74 (xG (.mv (xr 0)) 75 74 false (xG (.nil (xr 75)) 76 74 false (xG (.fad (xr 76) 1) 77 74 false (xG (.ld (xr 77) 1 false) 78 74 false (xG (.bin .eql (xr 78) (xi 9999)) 79 74 false (xt (.pick (xr 74) (xb true) (xr 79)) 80 .done)))))))))))))))))))) (.cond (xr 80) (xR (xtM 0 81 (xtN 81 82 (xtF 82 6 83 (.op .t (.sto (xr 83) (xb true) 1) none none .done)))) (xR (xt (.mv (.const zS)) 6 (xt (.mv (.const zS)) 7 .done)) .ret)) .skip)) (.seq (.join [] (xpM 0 85 (xpN 85 86 (xpF 86 2 87 (xlA 87 2 88 (xpF 5 6 89 (xlO 89 90 (xpF 5 7 91 (xlO 91 92 (xpF 5 8 93 (xlO 93 94 (xp (.bld [zI, zI, zS] [(0, (1, (xr 90))), (1, (1, (xr 92))), (2, (1, (xr 94)))]) 95 (.alt (xm (.call 174 [xr 88, xr 95]) 96 (xpM 96 84 (xpE 84 0 97 (xpE 84 1 98 (xpE 84 2 99 (xm (.alc 40 [zI, zS]) 8 (xS 8 97 2 (xpM 98 9 (xpM 99 10 .done))))))))) (xm (.alc 40 [zI, zS]) 8 (xm (.call 174 [xr 88, xr 95]) 96 (xpM 96 84 (xpE 84 0 97 (xpE 84 1 98 (xpE 84 2 99 (xS 8 97 2 (xpM 98 9 (xpM 99 10 .done)))))))))))))))))))))) (xR (xtM 0 100 (xtA 8 2 101 (xtN 100 102 (xtF 102 2 103 (xS 103 101 2 .done))))) (.seq (xR (xtM 10 104 (xt (.bin .eql (xr 104) (xi 3)) 105 .done)) (.cond (xr 105) (xR (xtM 0 106 (xtN 106 107 (xtF 107 6 108 (.op .t (.sto (xr 108) (xb true) 1) none none .done)))) (xR (xt (.mv (.const zS)) 6 (xt (.mv (.const zS)) 7 .done)) .ret)) .skip)) (xR (xtM 0 109 (xtM 0 110 (xtN 110 111 (xtF 111 0 112 (xtO 112 113 (xt (.call 175 [xr 113]) 114 (xtN 109 115 (xtF 115 0 116 (xS 116 114 1 .done))))))))) (xR (xtM 0 117 (xtN 117 118 (xtF 118 1 119 (xtO 119 120 (xt (.bin .add (xr 120) (xi 1)) 121 (xtN 117 122 (xtF 122 1 123 (xS 123 121 1 .done)))))))) (xR (xtM 0 124 (xtN 124 125 (xtF 125 4 126 (.op .t (.sto (xr 126) (xb false) 1) none none .done)))) (xR (xtM 10 127 (xt (.bin .eql (xr 127) (xi 2)) 128 .done)) (.cond (xr 128) (xR (xtM 9 129 (xt (.bsl 22 1 1 [zS] [(0, (xr 129))]) 130 (xtM 130 6 (xt (.mv (.const zS)) 7 .done)))) .ret) .skip))))))))) (xR (xpM 0 132 (xpN 132 133 (xpF 133 0 134 (xlO 134 135 (xpF 5 1 136 (xlO 136 137 (xpF 4 1 139 (xlO 139 140 (xm (.call 33 [xr 135, xr 137]) 138 (xp (.bin .lss (xr 138) (xr 140)) 141 (xpM 141 142 (.op .p (.mv (xr 0)) (some 143) (some (142, true)) (.op .p (.nil (xr 143)) (some 144) (some (142, true)) (.op .p (.fad (xr 144) 4) (some 145) (some (142, true)) (.op .l (.ld (xr 145) 1 false) (some 146) (some (142, true)) (.op .p (.not (xr 146)) (some 147) (some (142, true)) (xp (.pick (xr 142) (xr 147) (xb false)) 148 (xpM 148 131 .done)))))))))))))))))) (.cond (xr 131) (xR (xtM 0 149 (xtN 149 150 (xtF 150 4 151 (.op .t (.sto (xr 151) (xb true) 1) none none .done)))) (xR (xtM 0 152 (xtN 152 153 (xtA 153 7 154 (xt (.call 164 [xr 154, (xi 1), (xb false)]) 155 (xt (.bsl 52 9 1 [zI, zI, zI, zB, zB, zI, zI, zI, zS] [(0, (xr 155))]) 156 (xt (.mv (.const zS)) 6 (xtM 156 7 .done))))))) .ret)) .skip))))))))))) (xR (xt (.mv (.const zS)) 6 (xt (.mv (.const zS)) 7 .done)) .ret)))
theorem ic159_ok : Tryz.f159.body.bind (trC Tryz.prog []) = some ic159 := by kernel_rfl
def fr159 : List FR := [(FR.t 6), (FR.t 7)]
theorem fr159_ok : fres Tryz.prog Tryz.f159.results.toList = some fr159 := by kernel_rfl
def ic130 : IC := (xR (xt (.box 24 (xr 0)) 3 (xt (.box 42 (xr 1)) 4 (xt (.box 52 (xr 2)) 5 (xt (.alc 42 [zI, zI, zI, zS, zB, zB, zB]) 6 (xt (.mv (.const zS)) 7 (xt (.mv (.const zS)) 8 .done)))))) (.seq (xR (xtA 3 5 12 (xt (.call 26 [xr 12]) 13 (xtT 13 14 (xtM 14 15 (xG (.ld (xr 4) 7 true) 16 15 false (xG (.call 36 [xr 16]) 17 15 false (xG (.not (xr 17)) 18 15 false (xt (.pick (xr 15) (xb true) (xr 18)) 19 (xtM 19 20 (xG (.ld (xr 5) 9 true) 21 20 false (xG (.call 60 [xr 21]) 22 20 false (xG (.not (xr 22)) 23 20 false (xt (.pick (xr 20) (xb true) (xr 23)) 24 (xtM 24 25 (xG (.fad (xr 5) 0) 26 25 false (xG (.ld (xr 26) 1 false) 27 25 false (xG (.bin .neq (xr 27) (xi 1)) 28 25 false (xG (.mv (xr 28)) 29 25 false (xG (.fad (xr 5) 0) 30 29 true (xG (.ld (xr 30) 1 false) 31 29 true (xG (.bin .neq (xr 31) (xi 2)) 32 29 true (xG (.pick (xr 29) (xr 32) (xb false)) 33 25 false (xt (.pick (xr 25) (xb true) (xr 33)) 34 .done))))))))))))))))))))))) (.cond (xr 34) (xR (xt (.bld [zI, zI, zI, zS, zB, zB, zB] []) 35 (xS 6 35 7 (xt (.mv (.const zS)) 7 (xt (.mv (.const zS)) 8 .done)))) .ret) .skip)) (xR (xtA 4 7 36 (xt (.call 70 [xr 36]) 37 (xt (.alc 42 [zI, zI, zI, zS, zB, zB, zB]) 9 (xS 9 37 7 .done)))) (xR (xtA 3 5 39 (xtA 5 9 40 (xt (.call 159 [xr 9, xr 39, xr 40]) 41 (xtM 41 38 (xtE 38 0 42 (xtE 38 1 43 (xtM 42 10 (xtM 43 11 .done)))))))) (xR (xtA 9 7 44 (xt (.call 70 [xr 44]) 45 (xtM 10 46 (xtM 11 47 (xS 6 45 7 (xtM 46 7 (xtM 47 8 .done))))))) .ret)))))
theorem ic130_ok : Tryz.f130.body.bind (trC Tryz.prog []) = some ic130 := by kernel_rfl
def fr130 : List FR := [(FR.c 6 7 true), (FR.t 7), (FR.t 8)]
theorem fr130_ok : fres Tryz.prog Tryz.f130.results.toList = some fr130 := by kernel_rfl
def ic138 : IC := (xR (xt (.box 42 (xr 0)) 2 (xt (.alc 42 [zI, zI, zI, zS, zB, zB, zB]) 4 (xt (.mv (.const zS)) 5 .done))) (.seq (xR (xtA 2 7 7 (xt (.call 36 [xr 7]) 8 (xtT 8 9 .done))) (.cond (xr 9) (xR (xt (.bld [zI, zI, zI, zS, zB, zB, zB] []) 10 (xS 4 10 7 (xt (.mv (.const zS)) 5 .done))) .ret) .skip)) (xR (xtA 2 7 11 (xt (.call 70 [xr 11]) 12 (xt (.alc 42 [zI, zI, zI, zS, zB, zB, zB]) 6 (xS 6 12 7 .done)))) (.seq (xR (xtF 2 5 13 (xtO 13 14 (xtM 1 15 (xt (.eqb false (xr 14) (xr 15)) 16 (xtM 16 17 (xG (.fad (xr 2) 6) 18 17 false (xG (.ld (xr 18) 1 false) 19 17 false (xt (.pick (xr 17) (xb true) (xr 19)) 20 .done)))))))) (.cond (xr 20) (xR (xtA 6 7 21 (xS 4 21 7 (xt (.mv (.const zS)) 5 .done))) .ret) .skip)) (xR (xtM 1 22 (xtF 6 5 23 (xS 23 22 1 (xtF 6 4 24 (.op .t (.sto (xr 24) (xb false) 1) none none .done))))) (.seq (.join [4] (xlA 6 7 25 (xlA 6 7 26 (xpM 1 27 (xm (.call 163 [xr 27]) 28 (xm (.call 164 [xr 26, xr 28, (xb false)]) 29 (.alt (xm (.bsl 52 9 1 [zI, zI, zI, zB, zB, zI, zI, zI, zS] [(0, (xr 29))]) 30 (.op .m (.sto (xr 4) (xr 25) 7) none none (xpM 30 5 .done))) (.op .m (.sto (xr 4) (xr 25) 7) none none (xm (.bsl 52 9 1 [zI, zI, zI, zB, zB, zI, zI, zI, zS] [(0, (xr 29))]) 30 (xpM 30 5 .done)))))))))) .ret))))))
theorem ic138_ok : Tryz.f138.body.bind (trC Tryz.prog []) = some ic138 := by kernel_rfl
def fr138 : List FR := [(FR.c 4 7 true), (FR.t 5)]
theorem fr138_ok : fres Tryz.prog Tryz.f138.results.toList = some fr138 := by kernel_rfl
def ic139 : IC := (xR (xt (.box 42 (xr 0)) 1 (xt (.alc 52 [zI, zI, zI, zB, zB, zI, zI, zI, zS]) 2 .done)) (.seq (xR (xtA 1 7 3 (xt (.call 36 [xr 3]) 4 (xtT 4 5 .done))) (.cond (xr 5) (xR (xt (.bld [zI, zI, zI, zB, zB, zI, zI, zI, zS] []) 6 (xS 2 6 9 .done)) .ret) .skip)) (.seq (.reg [2] (xlA 1 7 7 (xpF 1 5 8 (xlO 8 9 (xm (.call 163 [xr 9]) 10 (xm (.call 164 [xr 7, xr 10, (xb false)]) 11 (.op .m (.sto (xr 2) (xr 11) 9) none none .done))))))) .ret)))
theorem ic139_ok : Tryz.f139.body.bind (trC Tryz.prog []) = some ic139 := by kernel_rfl
def fr139 : List FR := [(FR.c 2 9 true)]
theorem fr139_ok : fres Tryz.prog Tryz.f139.results.toList = some fr139 := by kernel_rfl
end Go.Proofs.YtnkhjnieidlknaaGreat
