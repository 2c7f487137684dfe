/- One is busy, or says how far all has come, by numbers, by the reference. · One hears a frame by numbers, by the reference. · What happens to the first message, by numbers, by the reference. · A frame that is on its way is bent, by the reference. · Two ends move to another link, by the reference. -/
import Derived.Test.YtnkhjnieidlknaaGreatB15
import Derived.Test.YtnkhjnieidlknaaGreatB7
import Derived.Test.YtnkhjnieidlknaaGreatB13
import Derived.Test.YtnkhjnieidlknaaGreatB14
namespace Go.Proofs.YtnkhjnieidlknaaGreat
open Go.RowKit
set_option linter.unusedVariables false
set_option linter.unusedSimpArgs false
set_option maxRecDepth 100000
set_option maxHeartbeats 1000000
theorem rxBusyG_ok {r : Rx} {b : Bool} (h : RxI r) : rxBusyG r b = rxBusy r b := by unfold rxBusyG; rw [if_pos (rxOk_iff.2 h)]
theorem rxBusy_frm {r : Rx} {b : Bool} (h : RxI r) : ∀ f ∈ (rxBusy r b).2, frmOk f = true ∧ f.data.length ≤ 8 := by
  intro f hf
  unfold rxBusy at hf
  split at hf
  · cases hf
  · rw [List.mem_singleton.1 hf]
    exact ⟨sayFrm_ok h.expect rfl (goWait_02 b), by simp [sayFrm]⟩
theorem rxBusy_len {r : Rx} {b : Bool} : (rxBusy r b).2.length ≤ 1 := by
  unfold rxBusy
  split <;> simp
theorem l9say_n0 (c : Cfg) (link : Int) (e0 e1 : End) (n0 n1 : List Msg) (m : WM) (ev : Evt) (v : Value) (z : Zc) (hv : By z ev.data v) (hR : WldR z e0 e1 n0 n1 m) (hI : EndI c e0) (hm : c.mode = 1) (h0 : n0.length ≤ 30) (h1 : n1.length ≤ 30) (hw : ev.who = 0) (hk : ev.kind = 4 ∨ ev.kind = 5 ∨ ev.kind = 6) :
    Spec Tryz.prog 88 [wldV c link m, vEvt ev v] z (wldA e0 e1 n0 n1 m) (WldH c (if ev.kind = 4 then says ⟨c, [e0, e1].set 0 { e0 with rx := (rxBusy e0.rx (decide (ev.v = 1))).1 }, [n0, n1], link⟩ 0 (rxBusy e0.rx (decide (ev.v = 1))).2 else if ev.kind = 5 ∧ e0.rx.dead = false then say1 ⟨c, [e0, e1], [n0, n1], link⟩ 0 (rxAck e0.rx) else ⟨c, [e0, e1], [n0, n1], link⟩)) := by
  obtain ⟨kind, who, at_, vv, data⟩ := ev
  dsimp only at *
  subst hw
  obtain ⟨mode, win, mps, mtu, tri⟩ := c
  dsimp only at hm
  subst hm
  obtain ⟨Av, kv, rfl, hkv, hBv, hrv⟩ := hv.form
  have hj23 := hI.rx.join.le
  have hjl : -1000000000 ≤ e0.rx.join.len := by have := hI.rx.join; rcases this with h | h <;> omega
  (refine spec_enterL [10, 11, 20, 21, 22, 23, 30, 31, 32, 33, 40, 41, 50, 51] Tryz.func88 ic88_ok fr88_ok Tryz.ntmps88 rfl ?_; simp only [seval, go_sem, ic88, fr88, zipL])
  refine vsI.atR 10 rfl fun hE => ?_
  have hE := hE (by omega)
  refine vsI.atR 11 rfl fun hN => ?_
  have hN := hN (by omega)
  refine gO ?_
  ((first | refine ⟨⟨by omega, hE⟩, ?_⟩ | refine ⟨hE, ?_⟩); (try simp only [seval, go_sem]))
  (refine ldF.agg (sz := 28) _ rfl (by exact .inr ⟨10, _, _, _, _, _, rfl, fun i u hu => ends_get0 hu⟩) ?_; simp only [seval, go_sem, endC]; refine gO ?_)
  rcases hk with rfl | rfl | rfl
  · simp only [seval, go_sem]
    refine gO ?_
    have hc := rxbusy_s e0.rx (decide (vv = 1)) _ z hR.e0.jo (by omega) hjl
    simp only [rxBusyG_ok hI.rx] at hc
    have hfr := @rxBusy_frm e0.rx (decide (vv = 1)) hI.rx
    have hln := @rxBusy_len e0.rx (decide (vv = 1))
    generalize rxBusy e0.rx (decide (vv = 1)) = tp at hc hfr hln ⊢
    obtain ⟨⟨expect, count, ⟨len, got⟩, again, busy, dead⟩, l⟩ := tp
    dsimp only at hc hfr hln ⊢
    refine tT ?_; refine callP (hc) rfl rfl ?_; rintro u z1 hz1 ⟨A3, k3, D3, m3, d3, rfl, h3, h4⟩; refine gO ?_
    have hR1 : WldR z1 e0 e1 n0 n1 m := ⟨hR.e0.mono hz1, hR.e1.mono hz1, hR.n0, hR.n1⟩
    ((first | refine ⟨⟨by omega, hE⟩, ?_⟩ | refine ⟨hE, ?_⟩); (try simp only [seval, go_sem]))
    (refine stoV_row 10 rfl rfl rfl rfl rfl rfl rfl (by rw [endsC_len]; simp) ?_; simp only [seval, go_sem, ends_rx0]; refine gO ?_)
    have hR2 : WldR z1 { e0 with rx := ⟨expect, count, ⟨len, got⟩, again, busy, dead⟩ } e1 n0 n1 { m with m0 := { m.m0 with jA := A3, jC := k3 } } := ⟨{ hR1.e0 with jo := h3 }, hR1.e1, hR.n0, hR.n1⟩
    try simp only [wr10]
    try simp only [seval, go_sem]
    refine wT ?_
    refine tT ?_; refine callW 999 (l9ways1 ⟨1, win, mps, mtu, tri⟩ link { e0 with rx := ⟨expect, count, ⟨len, got⟩, again, busy, dead⟩ } e1 n0 n1 { m with m0 := { m.m0 with jA := A3, jC := k3 } } l (.slice D3 m3 d3) z1 hR2 h4 (by omega) hfr h0 h1) rfl rfl rfl rfl ?_; rintro v z2 A' hz2 ⟨f0, f1, g0, g1, m', hw1, hw2, hw3, rfl, rfl, hR3⟩; refine gO ?_
    refine fP ?_
    exact ⟨f0, f1, g0, g1, m', hw1, hw2, hw3, rfl, rfl, hR3⟩
  · simp only [seval, go_sem]
    refine gO ?_
    (with_reducible refine condI.split (fun hg => ?_) (fun hg => ?_) <;> (try simp only [hg]) <;> (try simp only [seval, go_sem]))
    · have hd : e0.rx.dead = false := by simpa using hg
      rw [if_pos hd]
      refine gO ?_
      refine tT ?_; refine callP (l7say e0.rx _ false z hR.e0.jo) rfl rfl ?_; rintro _ _ - ⟨rfl, rfl⟩; refine gO ?_
      try simp only [wr10]
      try simp only [seval, go_sem]
      refine wT ?_
      refine tT ?_; refine callW 999 (l9way1 ⟨1, win, mps, mtu, tri⟩ link e0 e1 n0 n1 m (rxAck e0.rx) (.slice none 0 0) z hR (by omega) (sayFrm_ok hI.rx.expect rfl (goWait_02 _)) (Sl.nil _ _ _) (by simp [rxAck, sayFrm])) rfl rfl rfl rfl ?_; rintro v z2 A' hz2 ⟨f0, f1, g0, g1, m', hw1, hw2, hw3, rfl, rfl, hR3⟩; refine gO ?_
      refine fP ?_
      exact ⟨f0, f1, g0, g1, m', hw1, hw2, hw3, rfl, rfl, hR3⟩
    · have hd : ¬ e0.rx.dead = false := by simpa using hg
      rw [if_neg hd]
      refine gO ?_
      refine wS ?_
      exact ⟨e0, e1, n0, n1, m, rfl, rfl, rfl, rfl, rfl, hR⟩
  · simp only [seval, go_sem]
    refine gO ?_
    refine wS ?_
    exact ⟨e0, e1, n0, n1, m, rfl, rfl, rfl, rfl, rfl, hR⟩
theorem l9say_n1 (c : Cfg) (link : Int) (e0 e1 : End) (n0 n1 : List Msg) (m : WM) (ev : Evt) (v : Value) (z : Zc) (hv : By z ev.data v) (hR : WldR z e0 e1 n0 n1 m) (hI : EndI c e1) (hm : c.mode = 1) (h0 : n0.length ≤ 30) (h1 : n1.length ≤ 30) (hw : ev.who = 1) (hk : ev.kind = 4 ∨ ev.kind = 5 ∨ ev.kind = 6) :
    Spec Tryz.prog 88 [wldV c link m, vEvt ev v] z (wldA e0 e1 n0 n1 m) (WldH c (if ev.kind = 4 then says ⟨c, [e0, e1].set 1 { e1 with rx := (rxBusy e1.rx (decide (ev.v = 1))).1 }, [n0, n1], link⟩ 1 (rxBusy e1.rx (decide (ev.v = 1))).2 else if ev.kind = 5 ∧ e1.rx.dead = false then say1 ⟨c, [e0, e1], [n0, n1], link⟩ 1 (rxAck e1.rx) else ⟨c, [e0, e1], [n0, n1], link⟩)) := by
  obtain ⟨kind, who, at_, vv, data⟩ := ev
  dsimp only at *
  subst hw
  obtain ⟨mode, win, mps, mtu, tri⟩ := c
  dsimp only at hm
  subst hm
  obtain ⟨Av, kv, rfl, hkv, hBv, hrv⟩ := hv.form
  have hj23 := hI.rx.join.le
  have hjl : -1000000000 ≤ e1.rx.join.len := by have := hI.rx.join; rcases this with h | h <;> omega
  (refine spec_enterL [10, 11, 20, 21, 22, 23, 30, 31, 32, 33, 40, 41, 50, 51] Tryz.func88 ic88_ok fr88_ok Tryz.ntmps88 rfl ?_; simp only [seval, go_sem, ic88, fr88, zipL])
  refine vsI.atR 10 rfl fun hE => ?_
  have hE := hE (by omega)
  refine vsI.atR 11 rfl fun hN => ?_
  have hN := hN (by omega)
  refine gO ?_
  ((first | refine ⟨⟨by omega, hE⟩, ?_⟩ | refine ⟨hE, ?_⟩); (try simp only [seval, go_sem]))
  (refine ldF.agg (sz := 28) _ rfl (by exact .inr ⟨10, _, _, _, _, _, rfl, fun i u hu => ends_get1 hu⟩) ?_; simp only [seval, go_sem, endC]; refine gO ?_)
  rcases hk with rfl | rfl | rfl
  · simp only [seval, go_sem]
    refine gO ?_
    have hc := rxbusy_s e1.rx (decide (vv = 1)) _ z hR.e1.jo (by omega) hjl
    simp only [rxBusyG_ok hI.rx] at hc
    have hfr := @rxBusy_frm e1.rx (decide (vv = 1)) hI.rx
    have hln := @rxBusy_len e1.rx (decide (vv = 1))
    generalize rxBusy e1.rx (decide (vv = 1)) = tp at hc hfr hln ⊢
    obtain ⟨⟨expect, count, ⟨len, got⟩, again, busy, dead⟩, l⟩ := tp
    dsimp only at hc hfr hln ⊢
    refine tT ?_; refine callP (hc) rfl rfl ?_; rintro u z1 hz1 ⟨A3, k3, D3, m3, d3, rfl, h3, h4⟩; refine gO ?_
    have hR1 : WldR z1 e0 e1 n0 n1 m := ⟨hR.e0.mono hz1, hR.e1.mono hz1, hR.n0, hR.n1⟩
    ((first | refine ⟨⟨by omega, hE⟩, ?_⟩ | refine ⟨hE, ?_⟩); (try simp only [seval, go_sem]))
    (refine stoV_row 10 rfl rfl rfl rfl rfl rfl rfl (by rw [endsC_len]; simp) ?_; simp only [seval, go_sem, ends_rx1]; refine gO ?_)
    have hR2 : WldR z1 e0 { e1 with rx := ⟨expect, count, ⟨len, got⟩, again, busy, dead⟩ } n0 n1 { m with m1 := { m.m1 with jA := A3, jC := k3 } } := ⟨hR1.e0, { hR1.e1 with jo := h3 }, hR.n0, hR.n1⟩
    try simp only [wr11]
    try simp only [seval, go_sem]
    refine wT ?_
    refine tT ?_; refine callW 999 (l9ways0 ⟨1, win, mps, mtu, tri⟩ link e0 { e1 with rx := ⟨expect, count, ⟨len, got⟩, again, busy, dead⟩ } n0 n1 { m with m1 := { m.m1 with jA := A3, jC := k3 } } l (.slice D3 m3 d3) z1 hR2 h4 (by omega) hfr h0 h1) rfl rfl rfl rfl ?_; rintro v z2 A' hz2 ⟨f0, f1, g0, g1, m', hw1, hw2, hw3, rfl, rfl, hR3⟩; refine gO ?_
    refine fP ?_
    exact ⟨f0, f1, g0, g1, m', hw1, hw2, hw3, rfl, rfl, hR3⟩
  · simp only [seval, go_sem]
    refine gO ?_
    (with_reducible refine condI.split (fun hg => ?_) (fun hg => ?_) <;> (try simp only [hg]) <;> (try simp only [seval, go_sem]))
    · have hd : e1.rx.dead = false := by simpa using hg
      rw [if_pos hd]
      refine gO ?_
      refine tT ?_; refine callP (l7say e1.rx _ false z hR.e1.jo) rfl rfl ?_; rintro _ _ - ⟨rfl, rfl⟩; refine gO ?_
      try simp only [wr11]
      try simp only [seval, go_sem]
      refine wT ?_
      refine tT ?_; refine callW 999 (l9way0 ⟨1, win, mps, mtu, tri⟩ link e0 e1 n0 n1 m (rxAck e1.rx) (.slice none 0 0) z hR (by omega) (sayFrm_ok hI.rx.expect rfl (goWait_02 _)) (Sl.nil _ _ _) (by simp [rxAck, sayFrm])) rfl rfl rfl rfl ?_; rintro v z2 A' hz2 ⟨f0, f1, g0, g1, m', hw1, hw2, hw3, rfl, rfl, hR3⟩; refine gO ?_
      refine fP ?_
      exact ⟨f0, f1, g0, g1, m', hw1, hw2, hw3, rfl, rfl, hR3⟩
    · have hd : ¬ e1.rx.dead = false := by simpa using hg
      rw [if_neg hd]
      refine gO ?_
      refine wS ?_
      exact ⟨e0, e1, n0, n1, m, rfl, rfl, rfl, rfl, rfl, hR⟩
  · simp only [seval, go_sem]
    refine gO ?_
    refine wS ?_
    exact ⟨e0, e1, n0, n1, m, rfl, rfl, rfl, rfl, rfl, hR⟩
theorem WldR.up {z z' : Zc} {e0 e1 : End} {n0 n1 : List Msg} {m : WM} (hz : z ≤ z') (h : WldR z e0 e1 n0 n1 m) : WldR z' e0 e1 n0 n1 m := ⟨h.e0.mono hz, h.e1.mono hz, h.n0, h.n1⟩
theorem txHear_qu (t : Tx) (f : Frm) : (txHear t f).queue = t.queue := by unfold txHear; split; rfl; split <;> rfl
theorem rxHear_frm {c : Cfg} {r : Rx} {f : Frm} (h : RxI r) : ∀ g ∈ (rxHear c r f).2.2, frmOk g = true ∧ g.data.length ≤ 8 := by
  intro g hg
  have key : ∀ {a b : Bool} {s : Int}, (a && b) = false → 0 ≤ s ∧ s ≤ 2 → g ∈ [sayFrm r.expect a b s] → frmOk g = true ∧ g.data.length ≤ 8 := by
    intro a b s h1 h2 hg
    rw [List.mem_singleton.1 hg]
    exact ⟨sayFrm_ok h.expect h1 h2, by simp [sayFrm]⟩
  unfold rxHear at hg
  split at hg
  · cases hg
  · split at hg
    · split at hg
      · exact key rfl (goWait_02 _) hg
      · cases hg
    · split at hg
      · exact key rfl (by omega) hg
      · split at hg
        · cases hg
        · split at hg
          · exact key rfl (by omega) hg
          · cases hg
theorem rxHear_len {c : Cfg} {r : Rx} {f : Frm} : (rxHear c r f).2.2.length ≤ 1 := by
  unfold rxHear
  repeat' split
  all_goals simp
theorem frm2ack {f : Frm} (h : frmOk f = true) (hk : f.kind = 1 ∨ f.kind = 2) : 0 ≤ f.ack ∧ f.ack ≤ 7 := by
  unfold frmOk at h
  rcases hk with hk | hk
  · rw [if_pos hk] at h
    simp only [Bool.and_eq_true, isNum_iff] at h
    exact h.1.1.1.2
  · rw [if_neg (by omega), if_pos hk] at h
    simp only [Bool.and_eq_true, isNum_iff] at h
    exact h.1.1.1.1.1.2
def hearN1 (c : Cfg) (x : End) (f : Frm) : End := { x with tx := txHear x.tx f, rx := (rxHear c x.rx f).1, got := tell x.got (rxHear c x.rx f).2.1 }
theorem l9num0 (c : Cfg) (link : Int) (e0 e1 : End) (n0 n1 : List Msg) (m : WM) (f : Frm) (x : Value) (z : Zc) (hR : WldR z e0 e1 n0 n1 m) (hI : EndI c e0) (hf : frmOk f = true) (hkk : f.kind = 1 ∨ f.kind = 2) (hx : By z f.data x) (h0 : n0.length ≤ 30) (h1 : n1.length ≤ 30) :
    Spec Tryz.prog 155 [wldV c link m, .int .i64 0, vFrm f x] z (wldA e0 e1 n0 n1 m) (WldH c (says ⟨c, [e0, e1].set 0 (hearN1 c e0 f), [n0, n1], link⟩ 0 (rxHear c e0.rx f).2.2)) := by
  obtain ⟨Ax, kx, rfl, hkx, hBx, hrx⟩ := hx.form
  have hack := frm2ack hf hkk
  have hsn := hI.tx.sent
  have hwn := hI.tx.win
  have hcw := hI.tx.cfg.win
  have hcn := hI.tx.count
  have hg60 := hI.got.1
  have hmps := hI.tx.cfg.mps
  have hpl : ∀ p ∈ e0.tx.flight, p.data.length ≤ 1000000000 := fun p hp => by have := (hI.tx.fl p hp).2; omega
  have hc1 := l6hear e0.tx f m.m0.fA m.m0.qA e0.tx.queue.length m.m0.fC m.m0.qC m.m0.fV _ z hx hI.tx.acked hack (by omega) (by omega) (by omega) hpl hR.e0.fl hR.e0.fc
  have hqu := txHear_qu e0.tx f
  have hfr := @rxHear_frm c e0.rx f hI.rx
  have hln := @rxHear_len c e0.rx f
  obtain ⟨hrI, hsm, hsl⟩ := @rxHear_ok c e0.rx f hI.rx hf hkk
  unfold hearN1
  (refine spec_enterL [10, 11, 20, 21, 22, 23, 30, 31, 32, 33, 40, 41, 50, 51] Tryz.func155 ic155_ok fr155_ok Tryz.ntmps155 rfl ?_; simp only [seval, go_sem, ic155, fr155, zipL])
  refine vsI.atR 10 rfl fun hE => ?_
  have hE := hE (by omega)
  refine gO ?_
  ((first | refine ⟨⟨by omega, hE⟩, ?_⟩ | refine ⟨hE, ?_⟩); (try simp only [seval, go_sem]))
  (refine ldF.agg (sz := 28) _ rfl (by exact .inr ⟨10, _, _, _, _, _, rfl, fun i u hu => ends_get0 hu⟩) ?_; simp only [seval, go_sem, endC]; refine gO ?_)
  generalize txHear e0.tx f = tp at hc1 hqu ⊢
  obtain ⟨next, acked, fl, sent, qu, asks, tries, held, count, dead⟩ := tp
  dsimp only at hc1 hqu ⊢
  subst hqu
  refine tT ?_; refine callW 20 (hc1) rfl rfl rfl rfl ?_; rintro u z1 A' hz1 ⟨A3, a3, cs3, rfl, rfl, ha3, he3⟩; refine gO ?_
  have hR1 : WldR z1 e0 e1 n0 n1 m := ⟨hR.e0.mono hz1, hR.e1.mono hz1, hR.n0, hR.n1⟩
  ((first | refine ⟨⟨by omega, hE⟩, ?_⟩ | refine ⟨hE, ?_⟩); (try simp only [seval, go_sem]))
  (refine stoV_row 10 rfl rfl rfl rfl rfl rfl rfl (by rw [endsC_len]; simp) ?_; simp only [seval, go_sem, ends_tx0]; refine gO ?_)
  have hR2 : WldR z1 { e0 with tx := ⟨next, acked, fl, sent, e0.tx.queue, asks, tries, held, count, dead⟩ } e1 n0 n1 { m with m0 := { m.m0 with fA := A3, fC := a3, fV := cs3 } } := ⟨{ hR1.e0 with fl := he3, fc := ha3 }, hR1.e1, hR.n0, hR.n1⟩
  have hc2 := l7hear c e0.rx f _ _ z1 hR1.e0.jo (Sl.mono hz1 hx) hI.rx hf hkk
  generalize rxHear c e0.rx f = tq at hc2 hfr hln hrI hsm hsl ⊢
  obtain ⟨⟨rexpect, rcount, ⟨rlen, rgot⟩, ragain, rbusy, rdead⟩, sdus, sys⟩ := tq
  dsimp only at hc2 hfr hln hrI hsm hsl ⊢
  refine tT ?_; refine callP (hc2) rfl rfl ?_; rintro u z2 hz2 ⟨A5, k5, B6, m6, k6, B7, m7, k7, rfl, h5, h6, h7⟩; refine gO ?_
  have hR2 := WldR.up hz2 hR2
  dsimp only at h5 h6 h7
  ((first | refine ⟨⟨by omega, hE⟩, ?_⟩ | refine ⟨hE, ?_⟩); (try simp only [seval, go_sem]))
  (refine stoV_row 10 rfl rfl rfl rfl rfl rfl rfl (by rw [endsC_len]; simp) ?_; simp only [seval, go_sem, ends_rx0]; refine gO ?_)
  have hR3 : WldR z2 { e0 with tx := ⟨next, acked, fl, sent, e0.tx.queue, asks, tries, held, count, dead⟩, rx := ⟨rexpect, rcount, ⟨rlen, rgot⟩, ragain, rbusy, rdead⟩ } e1 n0 n1 { m with m0 := { m.m0 with fA := A3, fC := a3, fV := cs3, jA := A5, jC := k5 } } := ⟨{ hR2.e0 with jo := h5 }, hR2.e1, hR.n0, hR.n1⟩
  refine wT ?_
  refine tT ?_; refine callW 999 ((l9tell0 c link { e0 with tx := ⟨next, acked, fl, sent, e0.tx.queue, asks, tries, held, count, dead⟩, rx := ⟨rexpect, rcount, ⟨rlen, rgot⟩, ragain, rbusy, rdead⟩ } e1 n0 n1 { m with m0 := { m.m0 with fA := A3, fC := a3, fV := cs3, jA := A5, jC := k5 } } sdus (.slice B6 m6 k6) z2 hR3 h6 (by omega) hg60).mono fun _ _ _ _ h => wldH_eq h) rfl rfl rfl rfl ?_; rintro v z3 A' hz3 ⟨f0, f1, g0, g1, m', link', hw, rfl, rfl, hR4⟩; refine gO ?_
  injection hw with _ hw1 hw2 hw3
  injection hw2 with hw2 hw4
  injection hw4 with hw4 _
  subst hw2; subst hw4; subst hw3
  simp only [wr10]
  try simp only [seval, go_sem]
  refine tT ?_; refine callW 999 (l9ways1 c link f0 f1 n0 n1 m' sys (.slice B7 m7 k7) z3 hR4 (h7.mono hz3) (by omega) hfr h0 h1) rfl rfl rfl rfl ?_; rintro v z4 A' hz4 ⟨i0, i1, g0, g1, m'', hw5, hw6, hw7, rfl, rfl, hR5⟩; refine gO ?_
  refine fP ?_
  have e : ([e0, e1].set 0 { e0 with tx := ⟨next, acked, fl, sent, e0.tx.queue, asks, tries, held, count, dead⟩, rx := ⟨rexpect, rcount, ⟨rlen, rgot⟩, ragain, rbusy, rdead⟩, got := tell e0.got sdus } : List End) = [f0, f1] := hw1
  rw [e]
  exact ⟨i0, i1, g0, g1, m'', hw5, hw6, hw7, rfl, rfl, hR5⟩
theorem l9num1 (c : Cfg) (link : Int) (e0 e1 : End) (n0 n1 : List Msg) (m : WM) (f : Frm) (x : Value) (z : Zc) (hR : WldR z e0 e1 n0 n1 m) (hI : EndI c e1) (hf : frmOk f = true) (hkk : f.kind = 1 ∨ f.kind = 2) (hx : By z f.data x) (h0 : n0.length ≤ 30) (h1 : n1.length ≤ 30) :
    Spec Tryz.prog 155 [wldV c link m, .int .i64 1, vFrm f x] z (wldA e0 e1 n0 n1 m) (WldH c (says ⟨c, [e0, e1].set 1 (hearN1 c e1 f), [n0, n1], link⟩ 1 (rxHear c e1.rx f).2.2)) := by
  obtain ⟨Ax, kx, rfl, hkx, hBx, hrx⟩ := hx.form
  have hack := frm2ack hf hkk
  have hsn := hI.tx.sent
  have hwn := hI.tx.win
  have hcw := hI.tx.cfg.win
  have hcn := hI.tx.count
  have hg60 := hI.got.1
  have hmps := hI.tx.cfg.mps
  have hpl : ∀ p ∈ e1.tx.flight, p.data.length ≤ 1000000000 := fun p hp => by have := (hI.tx.fl p hp).2; omega
  have hc1 := l6hear e1.tx f m.m1.fA m.m1.qA e1.tx.queue.length m.m1.fC m.m1.qC m.m1.fV _ z hx hI.tx.acked hack (by omega) (by omega) (by omega) hpl hR.e1.fl hR.e1.fc
  have hqu := txHear_qu e1.tx f
  have hfr := @rxHear_frm c e1.rx f hI.rx
  have hln := @rxHear_len c e1.rx f
  obtain ⟨hrI, hsm, hsl⟩ := @rxHear_ok c e1.rx f hI.rx hf hkk
  unfold hearN1
  (refine spec_enterL [10, 11, 20, 21, 22, 23, 30, 31, 32, 33, 40, 41, 50, 51] Tryz.func155 ic155_ok fr155_ok Tryz.ntmps155 rfl ?_; simp only [seval, go_sem, ic155, fr155, zipL])
  refine vsI.atR 10 rfl fun hE => ?_
  have hE := hE (by omega)
  refine gO ?_
  ((first | refine ⟨⟨by omega, hE⟩, ?_⟩ | refine ⟨hE, ?_⟩); (try simp only [seval, go_sem]))
  (refine ldF.agg (sz := 28) _ rfl (by exact .inr ⟨10, _, _, _, _, _, rfl, fun i u hu => ends_get1 hu⟩) ?_; simp only [seval, go_sem, endC]; refine gO ?_)
  generalize txHear e1.tx f = tp at hc1 hqu ⊢
  obtain ⟨next, acked, fl, sent, qu, asks, tries, held, count, dead⟩ := tp
  dsimp only at hc1 hqu ⊢
  subst hqu
  refine tT ?_; refine callW 30 (hc1) rfl rfl rfl rfl ?_; rintro u z1 A' hz1 ⟨A3, a3, cs3, rfl, rfl, ha3, he3⟩; refine gO ?_
  have hR1 : WldR z1 e0 e1 n0 n1 m := ⟨hR.e0.mono hz1, hR.e1.mono hz1, hR.n0, hR.n1⟩
  ((first | refine ⟨⟨by omega, hE⟩, ?_⟩ | refine ⟨hE, ?_⟩); (try simp only [seval, go_sem]))
  (refine stoV_row 10 rfl rfl rfl rfl rfl rfl rfl (by rw [endsC_len]; simp) ?_; simp only [seval, go_sem, ends_tx1]; refine gO ?_)
  have hR2 : WldR z1 e0 { e1 with tx := ⟨next, acked, fl, sent, e1.tx.queue, asks, tries, held, count, dead⟩ } n0 n1 { m with m1 := { m.m1 with fA := A3, fC := a3, fV := cs3 } } := ⟨hR1.e0, { hR1.e1 with fl := he3, fc := ha3 }, hR.n0, hR.n1⟩
  have hc2 := l7hear c e1.rx f _ _ z1 hR1.e1.jo (Sl.mono hz1 hx) hI.rx hf hkk
  generalize rxHear c e1.rx f = tq at hc2 hfr hln hrI hsm hsl ⊢
  obtain ⟨⟨rexpect, rcount, ⟨rlen, rgot⟩, ragain, rbusy, rdead⟩, sdus, sys⟩ := tq
  dsimp only at hc2 hfr hln hrI hsm hsl ⊢
  refine tT ?_; refine callP (hc2) rfl rfl ?_; rintro u z2 hz2 ⟨A5, k5, B6, m6, k6, B7, m7, k7, rfl, h5, h6, h7⟩; refine gO ?_
  have hR2 := WldR.up hz2 hR2
  dsimp only at h5 h6 h7
  ((first | refine ⟨⟨by omega, hE⟩, ?_⟩ | refine ⟨hE, ?_⟩); (try simp only [seval, go_sem]))
  (refine stoV_row 10 rfl rfl rfl rfl rfl rfl rfl (by rw [endsC_len]; simp) ?_; simp only [seval, go_sem, ends_rx1]; refine gO ?_)
  have hR3 : WldR z2 e0 { e1 with tx := ⟨next, acked, fl, sent, e1.tx.queue, asks, tries, held, count, dead⟩, rx := ⟨rexpect, rcount, ⟨rlen, rgot⟩, ragain, rbusy, rdead⟩ } n0 n1 { m with m1 := { m.m1 with fA := A3, fC := a3, fV := cs3, jA := A5, jC := k5 } } := ⟨hR2.e0, { hR2.e1 with jo := h5 }, hR.n0, hR.n1⟩
  refine wT ?_
  refine tT ?_; refine callW 999 ((l9tell1 c link e0 { e1 with tx := ⟨next, acked, fl, sent, e1.tx.queue, asks, tries, held, count, dead⟩, rx := ⟨rexpect, rcount, ⟨rlen, rgot⟩, ragain, rbusy, rdead⟩ } n0 n1 { m with m1 := { m.m1 with fA := A3, fC := a3, fV := cs3, jA := A5, jC := k5 } } sdus (.slice B6 m6 k6) z2 hR3 h6 (by omega) hg60).mono fun _ _ _ _ h => wldH_eq h) rfl rfl rfl rfl ?_; rintro v z3 A' hz3 ⟨f0, f1, g0, g1, m', link', hw, rfl, rfl, hR4⟩; refine gO ?_
  injection hw with _ hw1 hw2 hw3
  injection hw2 with hw2 hw4
  injection hw4 with hw4 _
  subst hw2; subst hw4; subst hw3
  simp only [wr11]
  try simp only [seval, go_sem]
  refine tT ?_; refine callW 999 (l9ways0 c link f0 f1 n0 n1 m' sys (.slice B7 m7 k7) z3 hR4 (h7.mono hz3) (by omega) hfr h0 h1) rfl rfl rfl rfl ?_; rintro v z4 A' hz4 ⟨i0, i1, g0, g1, m'', hw5, hw6, hw7, rfl, rfl, hR5⟩; refine gO ?_
  refine fP ?_
  have e : ([e0, e1].set 1 { e1 with tx := ⟨next, acked, fl, sent, e1.tx.queue, asks, tries, held, count, dead⟩, rx := ⟨rexpect, rcount, ⟨rlen, rgot⟩, ragain, rbusy, rdead⟩, got := tell e1.got sdus } : List End) = [f0, f1] := hw1
  rw [e]
  exact ⟨i0, i1, g0, g1, m'', hw5, hw6, hw7, rfl, rfl, hR5⟩
def frameN0 (c : Cfg) (link : Int) (e0 e1 : End) (n0 n1 : List Msg) (f : Frm) : Wld := if f.kind = 1 ∨ f.kind = 2 then says ⟨c, [hearN1 c e0 f, e1], [n0, n1], link⟩ 0 (rxHear c e0.rx f).2.2 else ⟨c, [e0, e1], [n0, n1], link⟩
def frameN1 (c : Cfg) (link : Int) (e0 e1 : End) (n0 n1 : List Msg) (f : Frm) : Wld := if f.kind = 1 ∨ f.kind = 2 then says ⟨c, [e0, hearN1 c e1 f], [n0, n1], link⟩ 1 (rxHear c e1.rx f).2.2 else ⟨c, [e0, e1], [n0, n1], link⟩
theorem l9frame_n0 (c : Cfg) (link : Int) (e0 e1 : End) (n0 n1 : List Msg) (m : WM) (f : Frm) (x : Value) (z : Zc) (hR : WldR z e0 e1 n0 n1 m) (hI : EndI c e0) (hm : c.mode = 1) (hf : frmOk f = true) (hx : By z f.data x) (h0 : n0.length ≤ 30) (h1 : n1.length ≤ 30) :
    Spec Tryz.prog 127 [wldV c link m, .int .i64 0, vFrm f x] z (wldA e0 e1 n0 n1 m) (WldH c (frameN0 c link e0 e1 n0 n1 f)) := by
  obtain ⟨Ax, kx, rfl, hkx, hBx, hrx⟩ := hx.form
  have hkk := frmKind hf
  unfold frameN0
  obtain ⟨kind, seq, ack, poll, fin, say, seg, len, data⟩ := f
  obtain ⟨mode, win, mps, mtu, tri⟩ := c
  dsimp only at *
  subst hm
  (refine spec_enter1 Tryz.func127 ic127_ok fr127_ok Tryz.ntmps127 ?_; simp only [seval, go_sem, ic127, fr127])
  rcases hkk with rfl | rfl | rfl | rfl
  · try simp only [seval, go_sem]
    refine gO ?_
    refine tT ?_; refine callW 1000 (l9num0 ⟨1, win, mps, mtu, tri⟩ link e0 e1 n0 n1 m ⟨1, seq, ack, poll, fin, say, seg, len, data⟩ (.slice Ax data.length kx) z hR hI hf (.inl rfl) hx h0 h1) rfl rfl rfl rfl ?_; rintro u z1 A' hz1 ⟨f0, f1, g0, g1, m', hw1, hw2, hw3, rfl, rfl, hR3⟩; refine gO ?_
    refine fQ ?_
    exact ⟨f0, f1, g0, g1, m', hw1, hw2, hw3, rfl, rfl, hR3⟩
  · try simp only [seval, go_sem]
    refine gO ?_
    refine tT ?_; refine callW 1000 (l9num0 ⟨1, win, mps, mtu, tri⟩ link e0 e1 n0 n1 m ⟨2, seq, ack, poll, fin, say, seg, len, data⟩ (.slice Ax data.length kx) z hR hI hf (.inr rfl) hx h0 h1) rfl rfl rfl rfl ?_; rintro u z1 A' hz1 ⟨f0, f1, g0, g1, m', hw1, hw2, hw3, rfl, rfl, hR3⟩; refine gO ?_
    refine fQ ?_
    exact ⟨f0, f1, g0, g1, m', hw1, hw2, hw3, rfl, rfl, hR3⟩
  · try simp only [seval, go_sem]
    refine gO ?_
    refine fQ ?_
    exact WldH.mk hR
  · try simp only [seval, go_sem]
    refine gO ?_
    refine fQ ?_
    exact WldH.mk hR
theorem l9frame_n1 (c : Cfg) (link : Int) (e0 e1 : End) (n0 n1 : List Msg) (m : WM) (f : Frm) (x : Value) (z : Zc) (hR : WldR z e0 e1 n0 n1 m) (hI : EndI c e1) (hm : c.mode = 1) (hf : frmOk f = true) (hx : By z f.data x) (h0 : n0.length ≤ 30) (h1 : n1.length ≤ 30) :
    Spec Tryz.prog 127 [wldV c link m, .int .i64 1, vFrm f x] z (wldA e0 e1 n0 n1 m) (WldH c (frameN1 c link e0 e1 n0 n1 f)) := by
  obtain ⟨Ax, kx, rfl, hkx, hBx, hrx⟩ := hx.form
  have hkk := frmKind hf
  unfold frameN1
  obtain ⟨kind, seq, ack, poll, fin, say, seg, len, data⟩ := f
  obtain ⟨mode, win, mps, mtu, tri⟩ := c
  dsimp only at *
  subst hm
  (refine spec_enter1 Tryz.func127 ic127_ok fr127_ok Tryz.ntmps127 ?_; simp only [seval, go_sem, ic127, fr127])
  rcases hkk with rfl | rfl | rfl | rfl
  · try simp only [seval, go_sem]
    refine gO ?_
    refine tT ?_; refine callW 1000 (l9num1 ⟨1, win, mps, mtu, tri⟩ link e0 e1 n0 n1 m ⟨1, seq, ack, poll, fin, say, seg, len, data⟩ (.slice Ax data.length kx) z hR hI hf (.inl rfl) hx h0 h1) rfl rfl rfl rfl ?_; rintro u z1 A' hz1 ⟨f0, f1, g0, g1, m', hw1, hw2, hw3, rfl, rfl, hR3⟩; refine gO ?_
    refine fQ ?_
    exact ⟨f0, f1, g0, g1, m', hw1, hw2, hw3, rfl, rfl, hR3⟩
  · try simp only [seval, go_sem]
    refine gO ?_
    refine tT ?_; refine callW 1000 (l9num1 ⟨1, win, mps, mtu, tri⟩ link e0 e1 n0 n1 m ⟨2, seq, ack, poll, fin, say, seg, len, data⟩ (.slice Ax data.length kx) z hR hI hf (.inr rfl) hx h0 h1) rfl rfl rfl rfl ?_; rintro u z1 A' hz1 ⟨f0, f1, g0, g1, m', hw1, hw2, hw3, rfl, rfl, hR3⟩; refine gO ?_
    refine fQ ?_
    exact ⟨f0, f1, g0, g1, m', hw1, hw2, hw3, rfl, rfl, hR3⟩
  · try simp only [seval, go_sem]
    refine gO ?_
    refine fQ ?_
    exact WldH.mk hR
  · try simp only [seval, go_sem]
    refine gO ?_
    refine fQ ?_
    exact WldH.mk hR
def hear1N0 (c : Cfg) (link : Int) (e0 e1 : End) (n0 n1 : List Msg) : Wld := match n0 with
  | [] => ⟨c, [e0, e1], [n0, n1], link⟩
  | m :: l => match frmRead m.bytes with
    | none => ⟨c, [e0, e1], [l, n1], link⟩
    | some f => frameN0 c link e0 e1 l n1 f
def hear1N1 (c : Cfg) (link : Int) (e0 e1 : End) (n0 n1 : List Msg) : Wld := match n1 with
  | [] => ⟨c, [e0, e1], [n0, n1], link⟩
  | m :: l => match frmRead m.bytes with
    | none => ⟨c, [e0, e1], [n0, l], link⟩
    | some f => frameN1 c link e0 e1 n0 l f
theorem l9net_n0 (c : Cfg) (link : Int) (e0 e1 : End) (n0 n1 : List Msg) (m : WM) (ev : Evt) (v : Value) (z : Zc) (hv : By z ev.data v) (hR : WldR z e0 e1 n0 n1 m) (hI : EndI c e0) (hN : NetI n0) (hNw : NetI n1) (hm : c.mode = 1) (hw : ev.who = 0) (hk : ev.kind = 7 ∨ ev.kind = 8) :
    Spec Tryz.prog 89 [wldV c link m, vEvt ev v] z (wldA e0 e1 n0 n1 m) (WldH c (if ev.kind = 7 then hear1N0 c link e0 e1 n0 n1 else ⟨c, [e0, e1], [n0, n1].set 0 (n0.drop 1), link⟩)) := by
  obtain ⟨kind, who, at_, vv, data⟩ := ev
  dsimp only at *
  subst hw
  obtain ⟨Av, kv, rfl, hkv, hBv, hrv⟩ := hv.form
  (refine spec_enterL [10, 11, 20, 21, 22, 23, 30, 31, 32, 33, 40, 41, 50, 51] Tryz.func89 ic89_ok fr89_ok Tryz.ntmps89 rfl ?_; simp only [seval, go_sem, ic89, fr89, zipL])
  refine vsI.atR 11 rfl fun hA => ?_
  have hA := hA (by omega)
  refine gO ?_
  ((first | refine ⟨⟨by omega, hA⟩, ?_⟩ | refine ⟨hA, ?_⟩); (try simp only [seval, go_sem]))
  (refine ldF.one _ (RdS.cell 11 rfl rfl) ?_; refine gO ?_)
  (with_reducible refine condI.split (fun hg => ?_) (fun hg => ?_) <;> (try simp only [hg]) <;> (try simp only [seval, go_sem]))
  · have h0 : n0 = [] := List.eq_nil_of_length_eq_zero (by simp at hg; simp [hg])
    refine gO ?_
    refine wS ?_
    subst h0
    refine ⟨e0, e1, [], n1, m, ?_, ?_, ?_, ?_, rfl, hR⟩ <;> rcases hk with rfl | rfl <;> rfl
  · obtain ⟨msg, rest, hne⟩ : ∃ msg rest, n0 = msg :: rest := by
      cases hx : n0 with
      | nil => rw [hx] at hg; simp at hg
      | cons a b => exact ⟨a, b, rfl⟩
    have h15 : msg.bytes.length ≤ 15 := hN.2 msg (by rw [hne]; simp)
    have hn30 := hN.1
    have hnw30 := hNw.1
    have hr30 : rest.length ≤ 30 := by rw [hne] at hn30; simp at hn30; omega
    rcases hk with rfl | rfl
    · simp only [seval, go_sem]
      refine gO ?_
      refine wT ?_
      refine tT ?_; refine callW 999 (l9first0 c link e0 e1 n0 n1 msg rest m z hR hne (by omega)) rfl rfl rfl rfl ?_; rintro u z1 A' hz1 ⟨m1, A1, k1, rfl, rfl, hR1, hb1⟩; refine gO ?_
      have hc := frmRead_s msg.bytes _ z1 hb1 (by omega)
      have hR1' : WldR z1 e0 e1 rest n1 m1 := hR1
      cases hrd : frmRead msg.bytes with
      | none =>
        rw [hrd] at hc
        refine tT ?_; refine callP (hc) rfl rfl ?_; rintro u z2 hz2 rfl; refine gO ?_
        refine fP ?_
        rw [show hear1N0 c link e0 e1 n0 n1 = ⟨c, [e0, e1], [rest, n1], link⟩ by unfold hear1N0; rw [hne]; simp only [hrd]]
        exact WldH.mk (WldR.up hz2 hR1')
      | some f =>
        rw [hrd] at hc
        have hf := (frmRead_ok hrd).1
        refine tT ?_; refine callP (hc) rfl rfl ?_; rintro u z2 hz2 ⟨_, rfl, Ax, kx, csx, rfl, hkx, hex, hrx⟩; refine gO ?_
        refine tT ?_; refine callW 999 (l9frame_n0 c link e0 e1 rest n1 m1 f (.slice Ax f.data.length kx) z2 (WldR.up hz2 hR1') hI hm hf ⟨Ax, kx, csx, rfl, hkx, hex, hrx⟩ (by omega) (by omega)) rfl rfl rfl rfl ?_; rintro v z3 A' hz3 ⟨f0, f1, g0, g1, m', hw1, hw2, hw3, rfl, rfl, hR3⟩; refine gO ?_
        refine fP ?_
        rw [show hear1N0 c link e0 e1 n0 n1 = frameN0 c link e0 e1 rest n1 f by unfold hear1N0; rw [hne]; simp only [hrd]]
        exact ⟨f0, f1, g0, g1, m', hw1, hw2, hw3, rfl, rfl, hR3⟩
    · simp only [seval, go_sem]
      refine gO ?_
      refine wT ?_
      refine tT ?_; refine callW 999 (l9first0 c link e0 e1 n0 n1 msg rest m z hR hne (by omega)) rfl rfl rfl rfl ?_; rintro u z1 A' hz1 ⟨m1, A1, k1, rfl, rfl, hR1, hb1⟩; refine gO ?_
      refine fP ?_
      rw [hne]
      exact ⟨_, _, _, _, m1, rfl, rfl, rfl, rfl, rfl, hR1⟩
theorem l9net_n1 (c : Cfg) (link : Int) (e0 e1 : End) (n0 n1 : List Msg) (m : WM) (ev : Evt) (v : Value) (z : Zc) (hv : By z ev.data v) (hR : WldR z e0 e1 n0 n1 m) (hI : EndI c e1) (hN : NetI n1) (hNw : NetI n0) (hm : c.mode = 1) (hw : ev.who = 1) (hk : ev.kind = 7 ∨ ev.kind = 8) :
    Spec Tryz.prog 89 [wldV c link m, vEvt ev v] z (wldA e0 e1 n0 n1 m) (WldH c (if ev.kind = 7 then hear1N1 c link e0 e1 n0 n1 else ⟨c, [e0, e1], [n0, n1].set 1 (n1.drop 1), link⟩)) := by
  obtain ⟨kind, who, at_, vv, data⟩ := ev
  dsimp only at *
  subst hw
  obtain ⟨Av, kv, rfl, hkv, hBv, hrv⟩ := hv.form
  (refine spec_enterL [10, 11, 20, 21, 22, 23, 30, 31, 32, 33, 40, 41, 50, 51] Tryz.func89 ic89_ok fr89_ok Tryz.ntmps89 rfl ?_; simp only [seval, go_sem, ic89, fr89, zipL])
  refine vsI.atR 11 rfl fun hA => ?_
  have hA := hA (by omega)
  refine gO ?_
  ((first | refine ⟨⟨by omega, hA⟩, ?_⟩ | refine ⟨hA, ?_⟩); (try simp only [seval, go_sem]))
  (refine ldF.one _ (RdS.cell 11 rfl rfl) ?_; refine gO ?_)
  (with_reducible refine condI.split (fun hg => ?_) (fun hg => ?_) <;> (try simp only [hg]) <;> (try simp only [seval, go_sem]))
  · have h0 : n1 = [] := List.eq_nil_of_length_eq_zero (by simp at hg; simp [hg])
    refine gO ?_
    refine wS ?_
    subst h0
    refine ⟨e0, e1, n0, [], m, ?_, ?_, ?_, ?_, rfl, hR⟩ <;> rcases hk with rfl | rfl <;> rfl
  · obtain ⟨msg, rest, hne⟩ : ∃ msg rest, n1 = msg :: rest := by
      cases hx : n1 with
      | nil => rw [hx] at hg; simp at hg
      | cons a b => exact ⟨a, b, rfl⟩
    have h15 : msg.bytes.length ≤ 15 := hN.2 msg (by rw [hne]; simp)
    have hn30 := hN.1
    have hnw30 := hNw.1
    have hr30 : rest.length ≤ 30 := by rw [hne] at hn30; simp at hn30; omega
    rcases hk with rfl | rfl
    · simp only [seval, go_sem]
      refine gO ?_
      refine wT ?_
      refine tT ?_; refine callW 999 (l9first1 c link e0 e1 n0 n1 msg rest m z hR hne (by omega)) rfl rfl rfl rfl ?_; rintro u z1 A' hz1 ⟨m1, A1, k1, rfl, rfl, hR1, hb1⟩; refine gO ?_
      have hc := frmRead_s msg.bytes _ z1 hb1 (by omega)
      have hR1' : WldR z1 e0 e1 n0 rest m1 := hR1
      cases hrd : frmRead msg.bytes with
      | none =>
        rw [hrd] at hc
        refine tT ?_; refine callP (hc) rfl rfl ?_; rintro u z2 hz2 rfl; refine gO ?_
        refine fP ?_
        rw [show hear1N1 c link e0 e1 n0 n1 = ⟨c, [e0, e1], [n0, rest], link⟩ by unfold hear1N1; rw [hne]; simp only [hrd]]
        exact WldH.mk (WldR.up hz2 hR1')
      | some f =>
        rw [hrd] at hc
        have hf := (frmRead_ok hrd).1
        refine tT ?_; refine callP (hc) rfl rfl ?_; rintro u z2 hz2 ⟨_, rfl, Ax, kx, csx, rfl, hkx, hex, hrx⟩; refine gO ?_
        refine tT ?_; refine callW 999 (l9frame_n1 c link e0 e1 n0 rest m1 f (.slice Ax f.data.length kx) z2 (WldR.up hz2 hR1') hI hm hf ⟨Ax, kx, csx, rfl, hkx, hex, hrx⟩ (by omega) (by omega)) rfl rfl rfl rfl ?_; rintro v z3 A' hz3 ⟨f0, f1, g0, g1, m', hw1, hw2, hw3, rfl, rfl, hR3⟩; refine gO ?_
        refine fP ?_
        rw [show hear1N1 c link e0 e1 n0 n1 = frameN1 c link e0 e1 n0 rest f by unfold hear1N1; rw [hne]; simp only [hrd]]
        exact ⟨f0, f1, g0, g1, m', hw1, hw2, hw3, rfl, rfl, hR3⟩
    · simp only [seval, go_sem]
      refine gO ?_
      refine wT ?_
      refine tT ?_; refine callW 999 (l9first1 c link e0 e1 n0 n1 msg rest m z hR hne (by omega)) rfl rfl rfl rfl ?_; rintro u z1 A' hz1 ⟨m1, A1, k1, rfl, rfl, hR1, hb1⟩; refine gO ?_
      refine fP ?_
      rw [hne]
      exact ⟨_, _, _, _, m1, rfl, rfl, rfl, rfl, rfl, hR1⟩
theorem RdS.part {z : Zc} {L : Ents} {A : Option Addr} {o : Nat} {us : List Value} (k : Nat) {e sz n c : Nat} {cs : List Value} (hk : look k L = some (.own (rowA e sz (.slice A n c) n cs))) (h : ∀ i u, us[i]? = some u → cs[o + i]? = some u) : RdS z L A o us := .inr ⟨k, e, sz, n, c, cs, hk, h⟩
theorem bc_get {l : List Int} {i : Nat} (h : i < l.length) : (bc l)[i]? = some (.int .u8 (l.getD i 0)) := by
  simp [bc, List.getD, h]
theorem bc_set {l : List Int} {i : Nat} {x : Int} (h : i < l.length) : putV (bc l) i [.int .u8 x] = bc (l.set i x) := by
  simp only [putV, bc, ← List.map_take, ← List.map_drop, List.length_singleton, List.singleton_append]
  rw [List.set_eq_take_append_cons_drop, if_pos h]
  simp
theorem bend_bits {l : List Int} {i : Nat} {v : Int} (hb : Bys l) (h : i < l.length) (hv : 1 ≤ v ∧ v ≤ 255) : bits .xor .u8 (l.getD i 0) (IntKind.u8.wrap v) = (((l.getD i 0).toNat ^^^ v.toNat : Nat) : Int) := by
  have hx : 0 ≤ l.getD i 0 ∧ l.getD i 0 ≤ 255 := by
    have := hb (l.getD i 0) (by simp [List.getD, h])
    exact this
  generalize l.getD i 0 = x at hx
  obtain ⟨a, rfl⟩ := Int.eq_ofNat_of_zero_le hx.1
  obtain ⟨b, rfl⟩ := Int.eq_ofNat_of_zero_le (show 0 ≤ v by omega)
  rw [show IntKind.u8.wrap (b : Int) = (b : Int) by rw [IntKind.wrap_u8]; omega, bits_xor_u8 a b (by omega) (by omega)]
  rfl
theorem bend_bys {l : List Int} {i : Nat} {v : Int} (hb : Bys l) (h : i < l.length) (hv : 1 ≤ v ∧ v ≤ 255) : Bys (l.set i (((l.getD i 0).toNat ^^^ v.toNat : Nat) : Int)) := by
  have hx : 0 ≤ l.getD i 0 ∧ l.getD i 0 ≤ 255 := by
    have := hb (l.getD i 0) (by simp [List.getD, h])
    exact this
  intro y hy
  rcases List.mem_or_eq_of_mem_set hy with hy | rfl
  · exact hb y hy
  · have := Nat.xor_lt_two_pow (n := 8) (x := (l.getD i 0).toNat) (y := v.toNat) (by omega) (by omega)
    omega
theorem starL_tie {w : World} {A : Asrt} {As : List Asrt} {F : Nat → Prop} (h : (starL [A, starL As]).holds w F) : (starL (A :: As)).holds w F := by
  obtain ⟨F1, F2, h1, h2, hd, hF⟩ := h
  exact ⟨F1, F2, h1, starA_emp h2, hd, hF⟩
def bendL (l : List Msg) (a v : Int) : List Msg := match l with
  | [] => []
  | x :: l => bendM x a v :: l
theorem bendL_cons (x : Msg) (l : List Msg) (a v : Int) : bendL (x :: l) a v = bendM x a v :: l := rfl
theorem l9bend0 (c : Cfg) (link : Int) (e0 e1 : End) (n0 n1 : List Msg) (m : WM) (ev : Evt) (v : Value) (z : Zc) (hv : By z ev.data v) (hR : WldR z e0 e1 n0 n1 m) (hN : NetI n0) (hw : ev.who = 0) (hk : ev.kind = 9) :
    Spec Tryz.prog 89 [wldV c link m, vEvt ev v] z (wldA e0 e1 n0 n1 m) (WldH c ⟨c, [e0, e1], [n0, n1].set 0 (bendL n0 ev.at_ ev.v), link⟩) := by
  obtain ⟨kind, who, at_, vv, data⟩ := ev
  dsimp only at *
  subst hw
  subst hk
  obtain ⟨Av, kv, rfl, hkv, hBv, hrv⟩ := hv.form
  obtain ⟨E, EC, N, NC, m0, m1, ⟨A0, C0, ms0⟩, ⟨A1, C1, ms1⟩⟩ := m
  have hok := hR.n0.ok
  have hcap := hR.n0.cap
  dsimp only at hok hcap
  by_cases hP : ∃ x l, n0 = x :: l ∧ x.bent = false ∧ (0 ≤ at_ ∧ at_ < x.bytes.length) ∧ 1 ≤ vv ∧ vv ≤ 255
  · obtain ⟨⟨bent, bytes⟩, rest, rfl, hbn, hat, hvv⟩ := hP
    dsimp only at hbn hat
    subst hbn
    cases ms0 with
    | nil => exact hok.elim
    | cons x ms =>
      obtain ⟨a, cb⟩ := x
      obtain ⟨⟨hb1, hb2⟩, hok2⟩ := hok
      dsimp only at hb1 hb2
      have h15 : bytes.length ≤ 15 := hN.2 ⟨false, bytes⟩ (by simp)
      obtain ⟨i, rfl⟩ := Int.eq_ofNat_of_zero_le hat.1
      have hi : i < bytes.length := by omega
      have hbe : bysA bytes a cb = rowA tyB 1 (.slice a bytes.length cb) bytes.length (bc bytes) := by unfold bysA; rw [if_neg (List.ne_nil_of_length_pos (by omega))]
      (refine spec_enterL [10, 11, 20, 21, 22, 23, 30, 31, 32, 33, 40, 41, 50, 51] Tryz.func89 ic89_ok fr89_ok Tryz.ntmps89 rfl ?_; simp only [seval, go_sem, ic89, fr89, zipL])
      refine vsI.atR 11 rfl fun hA => ?_
      have hA := hA (by omega)
      refine vsI.atR 40 rfl fun hA2 => ?_
      have hA2 := hA2 (by simp)
      refine vsI.tf (Tf.split 41 46 rfl rfl rfl) ?_
      dsimp only
      simp only [hbe]
      refine vsI.atR 46 rfl fun hA3 => ?_
      have hA3 := hA3 (by omega)
      refine gO ?_
      ((first | refine ⟨⟨by omega, hA⟩, ?_⟩ | refine ⟨hA, ?_⟩); (try simp only [seval, go_sem]))
      (refine ldF.one _ (RdS.cell 11 rfl rfl) ?_; refine gO ?_)
      (with_reducible refine condI.split (fun hg => ?_) (fun hg => ?_) <;> (try simp only [hg]) <;> (try simp only [seval, go_sem]))
      · exfalso
        simp at hg
        omega
      refine gO ?_
      ((first | refine ⟨⟨by omega, hA⟩, ?_⟩ | refine ⟨hA, ?_⟩); (try simp only [seval, go_sem]))
      (refine ldF.one _ (RdS.cell 11 rfl rfl) ?_; refine gO ?_)
      refine ⟨⟨by simp, hA2⟩, ?_⟩
      refine ldF.agg (sz := 2) [.bool false, .slice a bytes.length cb] rfl (RdS.part 40 rfl (fun i u hu => by rw [Nat.zero_add]; match i, hu with | 0, hu => exact hu | 1, hu => exact hu)) ?_
      refine gO ?_
      have w1 : IntKind.i64.wrap ((bytes.length : Int) - 1) = (bytes.length : Int) - 1 := wrap_in (by omega) (by omega)
      have i1 : inB (i : Int) 0 ((bytes.length : Int) - 1) = true := inB_iff.2 ⟨by omega, by omega⟩
      have i2 : inB vv 1 255 = true := inB_iff.2 hvv
      try simp only [w1]
      refine tT ?_; refine callP (in_s (i : Int) 0 ((bytes.length : Int) - 1) z) rfl rfl ?_; rintro _ _ - ⟨rfl, rfl⟩; refine gO ?_
      simp only [i1]
      refine gO ?_
      refine tT ?_; refine callP (in_s vv 1 255 z) rfl rfl ?_; rintro _ _ - ⟨rfl, rfl⟩; refine gO ?_
      simp only [i2]
      refine gO ?_
      refine ⟨⟨by omega, by omega, hA3⟩, ?_⟩
      (try simp only [seval, go_sem])
      simp only [Nat.mul_one]
      refine ldF.one _ (RdS.cell 46 rfl (bc_get hi)) ?_
      refine gO ?_
      refine ⟨⟨by omega, by omega, hA3⟩, ?_⟩
      (try simp only [seval, go_sem])
      simp only [Nat.mul_one]
      rw [bend_bits hb2 hi hvv]
      refine stoV_row 46 rfl rfl rfl rfl rfl rfl rfl (by simp only [bc, List.length_map, List.length_singleton]; omega) ?_
      rw [bc_set hi]
      refine gO ?_
      ((first | refine ⟨⟨by omega, hA⟩, ?_⟩ | refine ⟨hA, ?_⟩); (try simp only [seval, go_sem]))
      (refine ldF.one _ (RdS.cell 11 rfl rfl) ?_; refine gO ?_)
      refine ⟨⟨by simp, hA2⟩, ?_⟩
      refine stoV_row 40 rfl rfl rfl rfl rfl rfl rfl (by simp [netV]) ?_
      simp only [seval, go_sem, putV]
      refine gO ?_
      (refine FinV.pk 97 [46, 41] ?_); dsimp only
      refine FinV.tf (Tf.own 97 rfl rfl (fun w F h => starL_tie h)) ?_
      dsimp only
      (refine FinV.pk 999 [10, 11, 20, 21, 22, 23, 30, 31, 32, 33, 40, 97, 50, 51] ?_); dsimp only
      refine fP ?_
      have hbm : bendM ⟨false, bytes⟩ (i : Int) vv = ⟨true, bytes.set i (((bytes.getD i 0).toNat ^^^ vv.toNat : Nat) : Int)⟩ := by unfold bendM; rw [if_pos ⟨by omega, by exact hat.2, hvv.1, hvv.2, rfl⟩]; rfl
      rw [bendL_cons, hbm]
      have hbe' : bysA (bytes.set i (((bytes.getD i 0).toNat ^^^ vv.toNat : Nat) : Int)) a cb = rowA tyB 1 (.slice a bytes.length cb) bytes.length (bc (bytes.set i (((bytes.getD i 0).toNat ^^^ vv.toNat : Nat) : Int))) := by
        unfold bysA
        rw [if_neg (List.ne_nil_of_length_pos (by rw [List.length_set]; omega)), List.length_set]
      refine ⟨e0, e1, _, _, ⟨E, EC, N, NC, m0, m1, ⟨A0, C0, (a, cb) :: ms⟩, ⟨A1, C1, ms1⟩⟩, rfl, rfl, rfl, rfl, ?_, ?_⟩
      · simp only [wldA, netB, netV, hbe', List.length_set]
        rfl
      · have hbx := bend_bys hb2 hi hvv
        exact ⟨hR.e0, hR.e1, ⟨⟨⟨by rw [List.length_set]; exact hb1, hbx⟩, hok2⟩, hcap⟩, hR.n1⟩
  · have hsame : ∀ x l, n0 = x :: l → bendM x at_ vv = x := fun x l e => by
      unfold bendM
      rw [if_neg (fun h => hP ⟨x, l, e, h.2.2.2.2, ⟨h.1, h.2.1⟩, h.2.2.1, h.2.2.2.1⟩)]
    (refine spec_enterL [10, 11, 20, 21, 22, 23, 30, 31, 32, 33, 40, 41, 50, 51] Tryz.func89 ic89_ok fr89_ok Tryz.ntmps89 rfl ?_; simp only [seval, go_sem, ic89, fr89, zipL])
    refine vsI.atR 11 rfl fun hA => ?_
    have hA := hA (by omega)
    refine vsI.atR 40 rfl fun hA2 => ?_
    refine gO ?_
    ((first | refine ⟨⟨by omega, hA⟩, ?_⟩ | refine ⟨hA, ?_⟩); (try simp only [seval, go_sem]))
    (refine ldF.one _ (RdS.cell 11 rfl rfl) ?_; refine gO ?_)
    (with_reducible refine condI.split (fun hg => ?_) (fun hg => ?_) <;> (try simp only [hg]) <;> (try simp only [seval, go_sem]))
    · have h0 : n0 = [] := List.eq_nil_of_length_eq_zero (by simp at hg; simp [hg])
      refine gO ?_
      refine wS ?_
      subst h0
      exact WldH.mk hR
    · cases n0 with
      | nil => simp at hg
      | cons msg rest =>
        obtain ⟨bent, bytes⟩ := msg
        have h15 : bytes.length ≤ 15 := hN.2 ⟨bent, bytes⟩ (by simp)
        have hA2 := hA2 (by simp)
        cases ms0 with
        | nil => exact hok.elim
        | cons x ms =>
          obtain ⟨a, cb⟩ := x
          have hsm := hsame _ _ rfl
          have w1 : IntKind.i64.wrap ((bytes.length : Int) - 1) = (bytes.length : Int) - 1 := wrap_in (by omega) (by omega)
          refine gO ?_
          ((first | refine ⟨⟨by omega, hA⟩, ?_⟩ | refine ⟨hA, ?_⟩); (try simp only [seval, go_sem]))
          (refine ldF.one _ (RdS.cell 11 rfl rfl) ?_; refine gO ?_)
          refine ⟨⟨by simp, hA2⟩, ?_⟩
          refine ldF.agg (sz := 2) [.bool bent, .slice a bytes.length cb] rfl (RdS.part 40 rfl (fun i u hu => by rw [Nat.zero_add]; match i, hu with | 0, hu => exact hu | 1, hu => exact hu)) ?_
          cases bent
          · refine gO ?_
            try simp only [w1]
            refine tT ?_; refine callP (in_s at_ 0 ((bytes.length : Int) - 1) z) rfl rfl ?_; rintro _ _ - ⟨rfl, rfl⟩; refine gO ?_
            cases h1 : inB at_ 0 ((bytes.length : Int) - 1)
            · refine gO ?_
              refine wS ?_
              rw [bendL_cons, hsm]
              exact WldH.mk hR
            · refine gO ?_
              refine tT ?_; refine callP (in_s vv 1 255 z) rfl rfl ?_; rintro _ _ - ⟨rfl, rfl⟩; refine gO ?_
              cases h2 : inB vv 1 255
              · refine gO ?_
                refine wS ?_
                rw [bendL_cons, hsm]
                exact WldH.mk hR
              · exfalso
                rw [inB_iff] at h1 h2
                exact hP ⟨⟨false, bytes⟩, rest, rfl, rfl, ⟨h1.1, by have := h1.2; show at_ < (bytes.length : Int); omega⟩, h2.1, h2.2⟩
          · refine gO ?_
            refine wS ?_
            rw [bendL_cons, hsm]
            exact WldH.mk hR
theorem l9bend1 (c : Cfg) (link : Int) (e0 e1 : End) (n0 n1 : List Msg) (m : WM) (ev : Evt) (v : Value) (z : Zc) (hv : By z ev.data v) (hR : WldR z e0 e1 n0 n1 m) (hN : NetI n1) (hw : ev.who = 1) (hk : ev.kind = 9) :
    Spec Tryz.prog 89 [wldV c link m, vEvt ev v] z (wldA e0 e1 n0 n1 m) (WldH c ⟨c, [e0, e1], [n0, n1].set 1 (bendL n1 ev.at_ ev.v), link⟩) := by
  obtain ⟨kind, who, at_, vv, data⟩ := ev
  dsimp only at *
  subst hw
  subst hk
  obtain ⟨Av, kv, rfl, hkv, hBv, hrv⟩ := hv.form
  obtain ⟨E, EC, N, NC, m0, m1, ⟨A0, C0, ms0⟩, ⟨A1, C1, ms1⟩⟩ := m
  have hok := hR.n1.ok
  have hcap := hR.n1.cap
  dsimp only at hok hcap
  by_cases hP : ∃ x l, n1 = x :: l ∧ x.bent = false ∧ (0 ≤ at_ ∧ at_ < x.bytes.length) ∧ 1 ≤ vv ∧ vv ≤ 255
  · obtain ⟨⟨bent, bytes⟩, rest, rfl, hbn, hat, hvv⟩ := hP
    dsimp only at hbn hat
    subst hbn
    cases ms1 with
    | nil => exact hok.elim
    | cons x ms =>
      obtain ⟨a, cb⟩ := x
      obtain ⟨⟨hb1, hb2⟩, hok2⟩ := hok
      dsimp only at hb1 hb2
      have h15 : bytes.length ≤ 15 := hN.2 ⟨false, bytes⟩ (by simp)
      obtain ⟨i, rfl⟩ := Int.eq_ofNat_of_zero_le hat.1
      have hi : i < bytes.length := by omega
      have hbe : bysA bytes a cb = rowA tyB 1 (.slice a bytes.length cb) bytes.length (bc bytes) := by unfold bysA; rw [if_neg (List.ne_nil_of_length_pos (by omega))]
      (refine spec_enterL [10, 11, 20, 21, 22, 23, 30, 31, 32, 33, 40, 41, 50, 51] Tryz.func89 ic89_ok fr89_ok Tryz.ntmps89 rfl ?_; simp only [seval, go_sem, ic89, fr89, zipL])
      refine vsI.atR 11 rfl fun hA => ?_
      have hA := hA (by omega)
      refine vsI.atR 50 rfl fun hA2 => ?_
      have hA2 := hA2 (by simp)
      refine vsI.tf (Tf.split 51 46 rfl rfl rfl) ?_
      dsimp only
      simp only [hbe]
      refine vsI.atR 46 rfl fun hA3 => ?_
      have hA3 := hA3 (by omega)
      refine gO ?_
      ((first | refine ⟨⟨by omega, hA⟩, ?_⟩ | refine ⟨hA, ?_⟩); (try simp only [seval, go_sem]))
      (refine ldF.one _ (RdS.cell 11 rfl rfl) ?_; refine gO ?_)
      (with_reducible refine condI.split (fun hg => ?_) (fun hg => ?_) <;> (try simp only [hg]) <;> (try simp only [seval, go_sem]))
      · exfalso
        simp at hg
        omega
      refine gO ?_
      ((first | refine ⟨⟨by omega, hA⟩, ?_⟩ | refine ⟨hA, ?_⟩); (try simp only [seval, go_sem]))
      (refine ldF.one _ (RdS.cell 11 rfl rfl) ?_; refine gO ?_)
      refine ⟨⟨by simp, hA2⟩, ?_⟩
      refine ldF.agg (sz := 2) [.bool false, .slice a bytes.length cb] rfl (RdS.part 50 rfl (fun i u hu => by rw [Nat.zero_add]; match i, hu with | 0, hu => exact hu | 1, hu => exact hu)) ?_
      refine gO ?_
      have w1 : IntKind.i64.wrap ((bytes.length : Int) - 1) = (bytes.length : Int) - 1 := wrap_in (by omega) (by omega)
      have i1 : inB (i : Int) 0 ((bytes.length : Int) - 1) = true := inB_iff.2 ⟨by omega, by omega⟩
      have i2 : inB vv 1 255 = true := inB_iff.2 hvv
      try simp only [w1]
      refine tT ?_; refine callP (in_s (i : Int) 0 ((bytes.length : Int) - 1) z) rfl rfl ?_; rintro _ _ - ⟨rfl, rfl⟩; refine gO ?_
      simp only [i1]
      refine gO ?_
      refine tT ?_; refine callP (in_s vv 1 255 z) rfl rfl ?_; rintro _ _ - ⟨rfl, rfl⟩; refine gO ?_
      simp only [i2]
      refine gO ?_
      refine ⟨⟨by omega, by omega, hA3⟩, ?_⟩
      (try simp only [seval, go_sem])
      simp only [Nat.mul_one]
      refine ldF.one _ (RdS.cell 46 rfl (bc_get hi)) ?_
      refine gO ?_
      refine ⟨⟨by omega, by omega, hA3⟩, ?_⟩
      (try simp only [seval, go_sem])
      simp only [Nat.mul_one]
      rw [bend_bits hb2 hi hvv]
      refine stoV_row 46 rfl rfl rfl rfl rfl rfl rfl (by simp only [bc, List.length_map, List.length_singleton]; omega) ?_
      rw [bc_set hi]
      refine gO ?_
      ((first | refine ⟨⟨by omega, hA⟩, ?_⟩ | refine ⟨hA, ?_⟩); (try simp only [seval, go_sem]))
      (refine ldF.one _ (RdS.cell 11 rfl rfl) ?_; refine gO ?_)
      refine ⟨⟨by simp, hA2⟩, ?_⟩
      refine stoV_row 50 rfl rfl rfl rfl rfl rfl rfl (by simp [netV]) ?_
      simp only [seval, go_sem, putV]
      refine gO ?_
      (refine FinV.pk 97 [46, 51] ?_); dsimp only
      refine FinV.tf (Tf.own 97 rfl rfl (fun w F h => starL_tie h)) ?_
      dsimp only
      (refine FinV.pk 999 [10, 11, 20, 21, 22, 23, 30, 31, 32, 33, 40, 41, 50, 97] ?_); dsimp only
      refine fP ?_
      have hbm : bendM ⟨false, bytes⟩ (i : Int) vv = ⟨true, bytes.set i (((bytes.getD i 0).toNat ^^^ vv.toNat : Nat) : Int)⟩ := by unfold bendM; rw [if_pos ⟨by omega, by exact hat.2, hvv.1, hvv.2, rfl⟩]; rfl
      rw [bendL_cons, hbm]
      have hbe' : bysA (bytes.set i (((bytes.getD i 0).toNat ^^^ vv.toNat : Nat) : Int)) a cb = rowA tyB 1 (.slice a bytes.length cb) bytes.length (bc (bytes.set i (((bytes.getD i 0).toNat ^^^ vv.toNat : Nat) : Int))) := by
        unfold bysA
        rw [if_neg (List.ne_nil_of_length_pos (by rw [List.length_set]; omega)), List.length_set]
      refine ⟨e0, e1, _, _, ⟨E, EC, N, NC, m0, m1, ⟨A0, C0, ms0⟩, ⟨A1, C1, (a, cb) :: ms⟩⟩, rfl, rfl, rfl, rfl, ?_, ?_⟩
      · simp only [wldA, netB, netV, hbe', List.length_set]
        rfl
      · have hbx := bend_bys hb2 hi hvv
        exact ⟨hR.e0, hR.e1, hR.n0, ⟨⟨⟨by rw [List.length_set]; exact hb1, hbx⟩, hok2⟩, hcap⟩⟩
  · have hsame : ∀ x l, n1 = x :: l → bendM x at_ vv = x := fun x l e => by
      unfold bendM
      rw [if_neg (fun h => hP ⟨x, l, e, h.2.2.2.2, ⟨h.1, h.2.1⟩, h.2.2.1, h.2.2.2.1⟩)]
    (refine spec_enterL [10, 11, 20, 21, 22, 23, 30, 31, 32, 33, 40, 41, 50, 51] Tryz.func89 ic89_ok fr89_ok Tryz.ntmps89 rfl ?_; simp only [seval, go_sem, ic89, fr89, zipL])
    refine vsI.atR 11 rfl fun hA => ?_
    have hA := hA (by omega)
    refine vsI.atR 50 rfl fun hA2 => ?_
    refine gO ?_
    ((first | refine ⟨⟨by omega, hA⟩, ?_⟩ | refine ⟨hA, ?_⟩); (try simp only [seval, go_sem]))
    (refine ldF.one _ (RdS.cell 11 rfl rfl) ?_; refine gO ?_)
    (with_reducible refine condI.split (fun hg => ?_) (fun hg => ?_) <;> (try simp only [hg]) <;> (try simp only [seval, go_sem]))
    · have h0 : n1 = [] := List.eq_nil_of_length_eq_zero (by simp at hg; simp [hg])
      refine gO ?_
      refine wS ?_
      subst h0
      exact WldH.mk hR
    · cases n1 with
      | nil => simp at hg
      | cons msg rest =>
        obtain ⟨bent, bytes⟩ := msg
        have h15 : bytes.length ≤ 15 := hN.2 ⟨bent, bytes⟩ (by simp)
        have hA2 := hA2 (by simp)
        cases ms1 with
        | nil => exact hok.elim
        | cons x ms =>
          obtain ⟨a, cb⟩ := x
          have hsm := hsame _ _ rfl
          have w1 : IntKind.i64.wrap ((bytes.length : Int) - 1) = (bytes.length : Int) - 1 := wrap_in (by omega) (by omega)
          refine gO ?_
          ((first | refine ⟨⟨by omega, hA⟩, ?_⟩ | refine ⟨hA, ?_⟩); (try simp only [seval, go_sem]))
          (refine ldF.one _ (RdS.cell 11 rfl rfl) ?_; refine gO ?_)
          refine ⟨⟨by simp, hA2⟩, ?_⟩
          refine ldF.agg (sz := 2) [.bool bent, .slice a bytes.length cb] rfl (RdS.part 50 rfl (fun i u hu => by rw [Nat.zero_add]; match i, hu with | 0, hu => exact hu | 1, hu => exact hu)) ?_
          cases bent
          · refine gO ?_
            try simp only [w1]
            refine tT ?_; refine callP (in_s at_ 0 ((bytes.length : Int) - 1) z) rfl rfl ?_; rintro _ _ - ⟨rfl, rfl⟩; refine gO ?_
            cases h1 : inB at_ 0 ((bytes.length : Int) - 1)
            · refine gO ?_
              refine wS ?_
              rw [bendL_cons, hsm]
              exact WldH.mk hR
            · refine gO ?_
              refine tT ?_; refine callP (in_s vv 1 255 z) rfl rfl ?_; rintro _ _ - ⟨rfl, rfl⟩; refine gO ?_
              cases h2 : inB vv 1 255
              · refine gO ?_
                refine wS ?_
                rw [bendL_cons, hsm]
                exact WldH.mk hR
              · exfalso
                rw [inB_iff] at h1 h2
                exact hP ⟨⟨false, bytes⟩, rest, rfl, rfl, ⟨h1.1, by have := h1.2; show at_ < (bytes.length : Int); omega⟩, h2.1, h2.2⟩
          · refine gO ?_
            refine wS ?_
            rw [bendL_cons, hsm]
            exact WldH.mk hR
theorem FinV.toRow {s : St} {fr : List FR} {R : Value → Zc → Asrt → Prop} (k j : Nat) {e sz m : Nat} {cs : List SC} {vs : List Value} (hk : look j s.L = some (.cells e cs)) (hv : allV cs = some vs) (hl : vs.length = m * sz) (hm : m ≤ 1000000000) (h : ∀ b, FinV fr (rowSt s k j b e sz m vs) R) : FinV fr s R := fun C ρ a w hs => by
  obtain ⟨b, _, hs'⟩ := hs.toRow k j hk hv hl hm
  exact h b C ρ a w hs'
theorem l9move0 (c : Cfg) (link : Int) (e0 e1 : End) (n0 n1 : List Msg) (m : WM) (ev : Evt) (v : Value) (z : Zc) (hv : By z ev.data v) (hR : WldR z e0 e1 n0 n1 m) (hl : 0 ≤ link ∧ link ≤ 1) (hw : ev.who = 0) (hk : ev.kind = 10) :
    Spec Tryz.prog 54 [wldV c link m, vEvt ev v] z (wldA e0 e1 n0 n1 m) (WldH c ⟨c, [e0, e1], [[], []], 1 - link⟩) := by
  obtain ⟨kind, who, at_, vv, data⟩ := ev
  dsimp only at *
  subst hw
  subst hk
  obtain ⟨Av, kv, rfl, hkv, hBv, hrv⟩ := hv.form
  (refine spec_enterL [10, 11, 20, 21, 22, 23, 30, 31, 32, 33, 40, 41, 50, 51] Tryz.func54 ic54_ok fr54_ok Tryz.ntmps54 rfl ?_; simp only [seval, go_sem, ic54, fr54, zipL])
  refine gO ?_
  refine tT ?_; refine callP (in_s 0 0 1 z) rfl rfl ?_; rintro _ _ - ⟨rfl, rfl⟩; refine gO ?_
  simp only [seval, go_sem, show inB 0 0 1 = true from rfl, show inB 1 0 1 = true from rfl]
  refine gO ?_
  have w1 : IntKind.i64.wrap (1 - link) = 1 - link := wrap_in (by omega) (by omega)
  simp only [w1]
  refine FinV.toRow 62 3 (m := 0) (sz := 2) rfl rfl rfl (by omega) (fun b3 => ?_)
  simp only [seval, go_sem, rowSt, subV, subC, subE, subL]
  refine FinV.toRow 63 4 (m := 0) (sz := 2) rfl rfl rfl (by omega) (fun b4 => ?_)
  simp only [seval, go_sem, rowSt, subV, subC, subE, subL]
  refine FinV.toRow 61 5 (m := 2) (sz := 1) rfl rfl rfl (by omega) (fun b5 => ?_)
  simp only [seval, go_sem, rowSt, subV, subC, subE, subL]
  refine FinV.tf (Tf.addE 64 rfl) ?_
  refine FinV.tf (Tf.addE 65 rfl) ?_
  dsimp only
  (refine FinV.pk 999 [10, 61, 20, 21, 22, 23, 30, 31, 32, 33, 62, 64, 63, 65] ?_); dsimp only
  refine fP ?_
  exact ⟨e0, e1, [], [], ⟨m.E, m.EC, some ⟨b5, 0, none⟩, 2, m.m0, m.m1, ⟨some ⟨b3, 0, none⟩, 0, []⟩, ⟨some ⟨b4, 0, none⟩, 0, []⟩⟩, rfl, rfl, rfl, rfl, rfl, ⟨hR.e0, hR.e1, ⟨trivial, Nat.le_refl _⟩, ⟨trivial, Nat.le_refl _⟩⟩⟩
theorem l9move1 (c : Cfg) (link : Int) (e0 e1 : End) (n0 n1 : List Msg) (m : WM) (ev : Evt) (v : Value) (z : Zc) (hv : By z ev.data v) (hR : WldR z e0 e1 n0 n1 m) (hl : 0 ≤ link ∧ link ≤ 1) (hw : ev.who = 1) (hk : ev.kind = 10) :
    Spec Tryz.prog 54 [wldV c link m, vEvt ev v] z (wldA e0 e1 n0 n1 m) (WldH c ⟨c, [e0, e1], [[], []], 1 - link⟩) := by
  obtain ⟨kind, who, at_, vv, data⟩ := ev
  dsimp only at *
  subst hw
  subst hk
  obtain ⟨Av, kv, rfl, hkv, hBv, hrv⟩ := hv.form
  (refine spec_enterL [10, 11, 20, 21, 22, 23, 30, 31, 32, 33, 40, 41, 50, 51] Tryz.func54 ic54_ok fr54_ok Tryz.ntmps54 rfl ?_; simp only [seval, go_sem, ic54, fr54, zipL])
  refine gO ?_
  refine tT ?_; refine callP (in_s 1 0 1 z) rfl rfl ?_; rintro _ _ - ⟨rfl, rfl⟩; refine gO ?_
  simp only [seval, go_sem, show inB 0 0 1 = true from rfl, show inB 1 0 1 = true from rfl]
  refine gO ?_
  have w1 : IntKind.i64.wrap (1 - link) = 1 - link := wrap_in (by omega) (by omega)
  simp only [w1]
  refine FinV.toRow 62 3 (m := 0) (sz := 2) rfl rfl rfl (by omega) (fun b3 => ?_)
  simp only [seval, go_sem, rowSt, subV, subC, subE, subL]
  refine FinV.toRow 63 4 (m := 0) (sz := 2) rfl rfl rfl (by omega) (fun b4 => ?_)
  simp only [seval, go_sem, rowSt, subV, subC, subE, subL]
  refine FinV.toRow 61 5 (m := 2) (sz := 1) rfl rfl rfl (by omega) (fun b5 => ?_)
  simp only [seval, go_sem, rowSt, subV, subC, subE, subL]
  refine FinV.tf (Tf.addE 64 rfl) ?_
  refine FinV.tf (Tf.addE 65 rfl) ?_
  dsimp only
  (refine FinV.pk 999 [10, 61, 20, 21, 22, 23, 30, 31, 32, 33, 62, 64, 63, 65] ?_); dsimp only
  refine fP ?_
  exact ⟨e0, e1, [], [], ⟨m.E, m.EC, some ⟨b5, 0, none⟩, 2, m.m0, m.m1, ⟨some ⟨b3, 0, none⟩, 0, []⟩, ⟨some ⟨b4, 0, none⟩, 0, []⟩⟩, rfl, rfl, rfl, rfl, rfl, ⟨hR.e0, hR.e1, ⟨trivial, Nat.le_refl _⟩, ⟨trivial, Nat.le_refl _⟩⟩⟩
end Go.Proofs.YtnkhjnieidlknaaGreat
