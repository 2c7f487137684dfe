/- What happens to the first message, for credits, by the reference. · What happens, for credits, by the reference. · A step for credits, by the reference. · Codes of functions, group Draw. · What a draw picks. · What is drawn: codes opened, bytes. · What is drawn to happen, on a link that keeps all. · Two ends at their beginning, by the reference. · Two ends at their beginning, by the reference: the walk. · Two ends that stay. -/
import Derived.Test.YtllafcmkppmdgaaGreatB11
import Derived.Test.YtllafcmkppmdgaaGreatB6
import Derived.Test.YtllafcmkppmdgaaGreatProg
import Derived.LoopN
namespace Go.Proofs.YtllafcmkppmdgaaGreat
open Go.RowKit
set_option linter.unusedVariables false
set_option linter.unusedSimpArgs false
set_option maxRecDepth 100000
set_option maxHeartbeats 1000000
def hear1C (c : Cfg) (x : End) (l : List Msg) : End := match l with
 | [] => x
 | m :: _ => match frmRead m.bytes with
  | none => x
  | some f => hearC c x f
theorem l9net_c0 (c : Cfg) (link : Int) (e0 e1 : End) (n0 n1 : List Msg) (m : WM) (ev : Evt) (v : Value) (z : Zc) (hv : By z ev.data v) (hR : WldR z e0 e1 n0 n1 m) (hI : EndI c e0) (hN : NetI n0) (hm : c.mode = 2) (hw : ev.who = 0) (hk : ev.kind = 7 ∨ ev.kind = 8) :
  Spec Tryz.prog 93 [wldV c link m, vEvt ev v] z (wldA e0 e1 n0 n1 m) (WldH c ⟨c, [e0, e1].set 0 (if ev.kind = 7 then hear1C c e0 n0 else e0), [n0, n1].set 0 (n0.drop 1), link⟩) := by
 obtain ⟨kind, who, at_, vv, data⟩ := ev
 dsimp only at *
 subst hw
 obtain ⟨Av, kv, rfl, hkv, hBv, hrv⟩ := hv.form
 refine eL kyR k93 ?_
 refine vsI.atR 11 rfl fun hA => ?_
 have hA := hA (by omega)
 refine gO ?_
 ((first | refine ⟨⟨by omega, hA⟩, ?_⟩ | refine ⟨hA, ?_⟩); (try simp only [seval, go_sem]))
 (refine ldF.one _ (RdS.cell 11 rfl rfl) ?_; refine gO ?_)
 (with_reducible refine condI.split (fun hg => ?_) (fun hg => ?_) <;> (try simp only [hg]) <;> (try simp only [seval, go_sem]))
 ·have h0 : n0 = [] := List.eq_nil_of_length_eq_zero (by simp at hg; simp [hg])
  refine gO ?_
  refine wS ?_
  subst h0
  exact ⟨e0, e1, [], n1, m, rfl, by simp [hear1C], rfl, rfl, rfl, hR⟩
 ·obtain ⟨msg, rest, hne⟩ : ∃ msg rest, n0 = msg :: rest := by
   cases hx : n0 with
   | nil => rw [hx] at hg; simp at hg
   | cons a b => exact ⟨a, b, rfl⟩
  have h15 : msg.bytes.length ≤ 15 := hN.2 msg (by rw [hne]; simp)
  have hn30 := hN.1
  rcases hk with rfl | rfl
  ·simp only [seval, go_sem]
   refine gO ?_
   refine wT ?_
   refine tT ?_; refine callW 999 (l9first0 c link e0 e1 n0 n1 msg rest m z hR hne (by omega)) rfl rfl rfl rfl ?_; rintro u z1 A' hz1 ⟨m1, A1, k1, rfl, rfl, hR1, hb1⟩; refine gO ?_
   have hc := frmRead_s msg.bytes _ z1 hb1 (by omega)
   have hR1' : WldR z1 e0 e1 rest n1 m1 := hR1
   cases hrd : frmRead msg.bytes with
   | none =>
    rw [hrd] at hc
    refine tT ?_; refine callP (hc) rfl rfl ?_; rintro u z2 hz2 rfl; refine gO ?_
    refine fP ?_
    rw [hne]
    exact ⟨e0, e1, rest, n1, m1, rfl, by simp [hear1C, hrd], rfl, rfl, rfl, ⟨hR1'.e0.mono hz2, hR1'.e1.mono hz2, hR1'.n0, hR1'.n1⟩⟩
   | some f =>
    rw [hrd] at hc
    have hf := (frmRead_ok hrd).1
    refine tT ?_; refine callP (hc) rfl rfl ?_; rintro u z2 hz2 ⟨_, rfl, Ax, kx, csx, rfl, hkx, hex, hrx⟩; refine gO ?_
    have hR2 : WldR z2 e0 e1 rest n1 m1 := ⟨hR1'.e0.mono hz2, hR1'.e1.mono hz2, hR1'.n0, hR1'.n1⟩
    refine tT ?_; refine callW 999 (l9frame_c0 c link e0 e1 rest n1 m1 f (.slice Ax f.data.length kx) z2 hR2 hI hm hf ⟨Ax, kx, csx, rfl, hkx, hex, hrx⟩) rfl rfl rfl rfl ?_; rintro v z3 A' hz3 ⟨f0, f1, g0, g1, m', hw1, hw2, hw3, rfl, rfl, hR3⟩; refine gO ?_
    refine fP ?_
    have hh : hear1C c e0 (msg :: rest) = hearC c e0 f := by simp only [hear1C, hrd]
    rw [hne]
    exact ⟨f0, f1, g0, g1, m', hw1, by rw [← hw2]; simp [hh], by rw [← hw3]; rfl, rfl, rfl, hR3⟩
  ·simp only [seval, go_sem]
   refine gO ?_
   refine wT ?_
   refine tT ?_; refine callW 999 (l9first0 c link e0 e1 n0 n1 msg rest m z hR hne (by omega)) rfl rfl rfl rfl ?_; rintro u z1 A' hz1 ⟨m1, A1, k1, rfl, rfl, hR1, hb1⟩; refine gO ?_
   refine fP ?_
   rw [hne]
   exact ⟨_, _, _, _, m1, rfl, rfl, rfl, rfl, rfl, hR1⟩
theorem l9net_c1 (c : Cfg) (link : Int) (e0 e1 : End) (n0 n1 : List Msg) (m : WM) (ev : Evt) (v : Value) (z : Zc) (hv : By z ev.data v) (hR : WldR z e0 e1 n0 n1 m) (hI : EndI c e1) (hN : NetI n1) (hm : c.mode = 2) (hw : ev.who = 1) (hk : ev.kind = 7 ∨ ev.kind = 8) :
  Spec Tryz.prog 93 [wldV c link m, vEvt ev v] z (wldA e0 e1 n0 n1 m) (WldH c ⟨c, [e0, e1].set 1 (if ev.kind = 7 then hear1C c e1 n1 else e1), [n0, n1].set 1 (n1.drop 1), link⟩) := by
 obtain ⟨kind, who, at_, vv, data⟩ := ev
 dsimp only at *
 subst hw
 obtain ⟨Av, kv, rfl, hkv, hBv, hrv⟩ := hv.form
 refine eL kyR k93 ?_
 refine vsI.atR 11 rfl fun hA => ?_
 have hA := hA (by omega)
 refine gO ?_
 ((first | refine ⟨⟨by omega, hA⟩, ?_⟩ | refine ⟨hA, ?_⟩); (try simp only [seval, go_sem]))
 (refine ldF.one _ (RdS.cell 11 rfl rfl) ?_; refine gO ?_)
 (with_reducible refine condI.split (fun hg => ?_) (fun hg => ?_) <;> (try simp only [hg]) <;> (try simp only [seval, go_sem]))
 ·have h0 : n1 = [] := List.eq_nil_of_length_eq_zero (by simp at hg; simp [hg])
  refine gO ?_
  refine wS ?_
  subst h0
  exact ⟨e0, e1, n0, [], m, rfl, by simp [hear1C], rfl, rfl, rfl, hR⟩
 ·obtain ⟨msg, rest, hne⟩ : ∃ msg rest, n1 = msg :: rest := by
   cases hx : n1 with
   | nil => rw [hx] at hg; simp at hg
   | cons a b => exact ⟨a, b, rfl⟩
  have h15 : msg.bytes.length ≤ 15 := hN.2 msg (by rw [hne]; simp)
  have hn30 := hN.1
  rcases hk with rfl | rfl
  ·simp only [seval, go_sem]
   refine gO ?_
   refine wT ?_
   refine tT ?_; refine callW 999 (l9first1 c link e0 e1 n0 n1 msg rest m z hR hne (by omega)) rfl rfl rfl rfl ?_; rintro u z1 A' hz1 ⟨m1, A1, k1, rfl, rfl, hR1, hb1⟩; refine gO ?_
   have hc := frmRead_s msg.bytes _ z1 hb1 (by omega)
   have hR1' : WldR z1 e0 e1 n0 rest m1 := hR1
   cases hrd : frmRead msg.bytes with
   | none =>
    rw [hrd] at hc
    refine tT ?_; refine callP (hc) rfl rfl ?_; rintro u z2 hz2 rfl; refine gO ?_
    refine fP ?_
    rw [hne]
    exact ⟨e0, e1, n0, rest, m1, rfl, by simp [hear1C, hrd], rfl, rfl, rfl, ⟨hR1'.e0.mono hz2, hR1'.e1.mono hz2, hR1'.n0, hR1'.n1⟩⟩
   | some f =>
    rw [hrd] at hc
    have hf := (frmRead_ok hrd).1
    refine tT ?_; refine callP (hc) rfl rfl ?_; rintro u z2 hz2 ⟨_, rfl, Ax, kx, csx, rfl, hkx, hex, hrx⟩; refine gO ?_
    have hR2 : WldR z2 e0 e1 n0 rest m1 := ⟨hR1'.e0.mono hz2, hR1'.e1.mono hz2, hR1'.n0, hR1'.n1⟩
    refine tT ?_; refine callW 999 (l9frame_c1 c link e0 e1 n0 rest m1 f (.slice Ax f.data.length kx) z2 hR2 hI hm hf ⟨Ax, kx, csx, rfl, hkx, hex, hrx⟩) rfl rfl rfl rfl ?_; rintro v z3 A' hz3 ⟨f0, f1, g0, g1, m', hw1, hw2, hw3, rfl, rfl, hR3⟩; refine gO ?_
    refine fP ?_
    have hh : hear1C c e1 (msg :: rest) = hearC c e1 f := by simp only [hear1C, hrd]
    rw [hne]
    exact ⟨f0, f1, g0, g1, m', hw1, by rw [← hw2]; simp [hh], by rw [← hw3]; rfl, rfl, rfl, hR3⟩
  ·simp only [seval, go_sem]
   refine gO ?_
   refine wT ?_
   refine tT ?_; refine callW 999 (l9first1 c link e0 e1 n0 n1 msg rest m z hR hne (by omega)) rfl rfl rfl rfl ?_; rintro u z1 A' hz1 ⟨m1, A1, k1, rfl, rfl, hR1, hb1⟩; refine gO ?_
   refine fP ?_
   rw [hne]
   exact ⟨_, _, _, _, m1, rfl, rfl, rfl, rfl, rfl, hR1⟩
theorem l9put_f0 (c : Cfg) (link : Int) (e0 e1 : End) (n0 n1 : List Msg) (m : WM) (v : Value) (z : Zc) (hR : WldR z e0 e1 n0 n1 m) (sdu : List Int) (hv : By z sdu v) (h60 : e0.put.length = 60) :
  Spec Tryz.prog 89 [wldV c link m, .int .i64 0, v] z (wldA e0 e1 n0 n1 m) (WldH c ⟨c, [e0, e1], [n0, n1], link⟩) := by
 obtain ⟨Av, kv, rfl, hkv, hBv, hrv⟩ := hv.form
 refine eL kyR k89 ?_
 refine vsI.atR 10 rfl fun hE => ?_
 have hE := hE (by omega)
 refine gO ?_
 ((first | refine ⟨⟨by omega, hE⟩, ?_⟩ | refine ⟨hE, ?_⟩); (try simp only [seval, go_sem]))
 (refine ldF.agg (sz := 28) _ rfl (by exact .inr ⟨10, _, _, _, _, _, rfl, fun i u hu => ends_get0 hu⟩) ?_; simp only [seval, go_sem, endC]; refine gO ?_)
 (with_reducible refine condI.split (fun hg => ?_) (fun hg => ?_) <;> (try simp only [hg]) <;> (try simp only [seval, go_sem]))
 ·refine gO ?_
  refine wS ?_
  exact ⟨e0, e1, n0, n1, m, rfl, rfl, rfl, rfl, rfl, hR⟩
 ·exfalso
  simp [h60] at hg
theorem l9tick_c0 (c : Cfg) (link : Int) (e0 e1 : End) (n0 n1 : List Msg) (m : WM) (z : Zc) (hR : WldR z e0 e1 n0 n1 m) (hm : c.mode = 2) :
  Spec Tryz.prog 91 [wldV c link m, .int .i64 0] z (wldA e0 e1 n0 n1 m) (WldH c ⟨c, [e0, e1], [n0, n1], link⟩) := by
 refine eL kyR k91 ?_
 refine vsI.atR 10 rfl fun hE => ?_
 have hE := hE (by omega)
 refine gO ?_
 ((first | refine ⟨⟨by omega, hE⟩, ?_⟩ | refine ⟨hE, ?_⟩); (try simp only [seval, go_sem]))
 (refine ldF.agg (sz := 28) _ rfl (by exact .inr ⟨10, _, _, _, _, _, rfl, fun i u hu => ends_get0 hu⟩) ?_; simp only [seval, go_sem, endC]; refine gO ?_)
 (with_reducible refine condI.split (fun hg => ?_) (fun hg => ?_) <;> (try simp only [hg]) <;> (try simp only [seval, go_sem]))
 ·refine gO ?_
  refine wS ?_
  exact ⟨e0, e1, n0, n1, m, rfl, rfl, rfl, rfl, rfl, hR⟩
 ·exfalso
  simp [hm] at hg
theorem l9put_f1 (c : Cfg) (link : Int) (e0 e1 : End) (n0 n1 : List Msg) (m : WM) (v : Value) (z : Zc) (hR : WldR z e0 e1 n0 n1 m) (sdu : List Int) (hv : By z sdu v) (h60 : e1.put.length = 60) :
  Spec Tryz.prog 89 [wldV c link m, .int .i64 1, v] z (wldA e0 e1 n0 n1 m) (WldH c ⟨c, [e0, e1], [n0, n1], link⟩) := by
 obtain ⟨Av, kv, rfl, hkv, hBv, hrv⟩ := hv.form
 refine eL kyR k89 ?_
 refine vsI.atR 10 rfl fun hE => ?_
 have hE := hE (by omega)
 refine gO ?_
 ((first | refine ⟨⟨by omega, hE⟩, ?_⟩ | refine ⟨hE, ?_⟩); (try simp only [seval, go_sem]))
 (refine ldF.agg (sz := 28) _ rfl (by exact .inr ⟨10, _, _, _, _, _, rfl, fun i u hu => ends_get1 hu⟩) ?_; simp only [seval, go_sem, endC]; refine gO ?_)
 (with_reducible refine condI.split (fun hg => ?_) (fun hg => ?_) <;> (try simp only [hg]) <;> (try simp only [seval, go_sem]))
 ·refine gO ?_
  refine wS ?_
  exact ⟨e0, e1, n0, n1, m, rfl, rfl, rfl, rfl, rfl, hR⟩
 ·exfalso
  simp [h60] at hg
theorem l9tick_c1 (c : Cfg) (link : Int) (e0 e1 : End) (n0 n1 : List Msg) (m : WM) (z : Zc) (hR : WldR z e0 e1 n0 n1 m) (hm : c.mode = 2) :
  Spec Tryz.prog 91 [wldV c link m, .int .i64 1] z (wldA e0 e1 n0 n1 m) (WldH c ⟨c, [e0, e1], [n0, n1], link⟩) := by
 refine eL kyR k91 ?_
 refine vsI.atR 10 rfl fun hE => ?_
 have hE := hE (by omega)
 refine gO ?_
 ((first | refine ⟨⟨by omega, hE⟩, ?_⟩ | refine ⟨hE, ?_⟩); (try simp only [seval, go_sem]))
 (refine ldF.agg (sz := 28) _ rfl (by exact .inr ⟨10, _, _, _, _, _, rfl, fun i u hu => ends_get1 hu⟩) ?_; simp only [seval, go_sem, endC]; refine gO ?_)
 (with_reducible refine condI.split (fun hg => ?_) (fun hg => ?_) <;> (try simp only [hg]) <;> (try simp only [seval, go_sem]))
 ·refine gO ?_
  refine wS ?_
  exact ⟨e0, e1, n0, n1, m, rfl, rfl, rfl, rfl, rfl, hR⟩
 ·exfalso
  simp [hm] at hg
theorem step_put0 (c : Cfg) (link : Int) (e0 e1 : End) (n0 n1 : List Msg) (ev : Evt) (hm : c.mode = 2) (hk : ev.kind = 1) (hw : ev.who = 0) : step true ⟨c, [e0, e1], [n0, n1], link⟩ ev = if e0.put.length < 60 then ⟨c, [e0, e1].set 0 (putM c e0 ev.data), [n0, n1], link⟩ else ⟨c, [e0, e1], [n0, n1], link⟩ := by
 obtain ⟨kind, who, at_, v, data⟩ := ev
 obtain ⟨mode, win, mps, mtu, tri⟩ := c
 dsimp only at *
 subst hm hk hw
 rfl
theorem step_send0 (c : Cfg) (link : Int) (e0 e1 : End) (n0 n1 : List Msg) (ev : Evt) (hm : c.mode = 2) (hk : ev.kind = 2) (hw : ev.who = 0) : step true ⟨c, [e0, e1], [n0, n1], link⟩ ev = if n1.length < 30 then sayO ⟨c, [e0, e1].set 0 { e0 with ctx := (crdSend e0.ctx).1 }, [n0, n1], link⟩ 0 (crdSend e0.ctx).2 else ⟨c, [e0, e1], [n0, n1], link⟩ := by
 obtain ⟨kind, who, at_, v, data⟩ := ev
 obtain ⟨mode, win, mps, mtu, tri⟩ := c
 dsimp only at *
 subst hm hk hw
 rfl
theorem step_tick0 (c : Cfg) (link : Int) (e0 e1 : End) (n0 n1 : List Msg) (ev : Evt) (hm : c.mode = 2) (hk : ev.kind = 3 ∨ ev.kind = 4 ∨ ev.kind = 5) (hw : ev.who = 0) : step true ⟨c, [e0, e1], [n0, n1], link⟩ ev = ⟨c, [e0, e1], [n0, n1], link⟩ := by
 obtain ⟨kind, who, at_, v, data⟩ := ev
 obtain ⟨mode, win, mps, mtu, tri⟩ := c
 dsimp only at *
 subst hm hw
 rcases hk with rfl | rfl | rfl <;> rfl
theorem step_grant0 (c : Cfg) (link : Int) (e0 e1 : End) (n0 n1 : List Msg) (ev : Evt) (hm : c.mode = 2) (hk : ev.kind = 6) (hw : ev.who = 0) : step true ⟨c, [e0, e1], [n0, n1], link⟩ ev = if n1.length < 30 then sayO ⟨c, [e0, e1].set 0 { e0 with crx := (crdGrant e0.crx).1 }, [n0, n1], link⟩ 0 (crdGrant e0.crx).2 else ⟨c, [e0, e1], [n0, n1], link⟩ := by
 obtain ⟨kind, who, at_, v, data⟩ := ev
 obtain ⟨mode, win, mps, mtu, tri⟩ := c
 dsimp only at *
 subst hm hk hw
 rfl
theorem step_lose0 (c : Cfg) (link : Int) (e0 e1 : End) (n0 n1 : List Msg) (ev : Evt) (hk : ev.kind = 8) (hw : ev.who = 0) : step true ⟨c, [e0, e1], [n0, n1], link⟩ ev = ⟨c, [e0, e1], [n0, n1].set 0 (n0.drop 1), link⟩ := by
 obtain ⟨kind, who, at_, v, data⟩ := ev
 dsimp only at *
 subst hk hw
 rfl
theorem step_hear0 (c : Cfg) (link : Int) (e0 e1 : End) (n0 n1 : List Msg) (ev : Evt) (hm : c.mode = 2) (hk : ev.kind = 7) (hw : ev.who = 0) : step true ⟨c, [e0, e1], [n0, n1], link⟩ ev = ⟨c, [e0, e1].set 0 (hear1C c e0 n0), [n0, n1].set 0 (n0.drop 1), link⟩ := by
 obtain ⟨kind, who, at_, v, data⟩ := ev
 obtain ⟨mode, win, mps, mtu, tri⟩ := c
 dsimp only at *
 subst hm hk hw
 cases n0 with
 | nil => rfl
 | cons a l =>
  show hear1 ⟨⟨2, win, mps, mtu, tri⟩, [e0, e1], [a :: l, n1], link⟩ 0 = _
  simp only [hear1, netAt, List.getD_cons_zero, List.getD_cons_succ, hear1C]
  cases frmRead a.bytes with
  | none => rfl
  | some f =>
   simp only [hearC]
   by_cases h4 : f.kind = 4
   ·simp only [hearF, h4]; rfl
   ·by_cases h3 : f.kind = 3
    ·simp only [hearF, h3]; rfl
    ·simp only [hearF, if_neg h4, if_neg h3]; rfl
theorem step_put1 (c : Cfg) (link : Int) (e0 e1 : End) (n0 n1 : List Msg) (ev : Evt) (hm : c.mode = 2) (hk : ev.kind = 1) (hw : ev.who = 1) : step true ⟨c, [e0, e1], [n0, n1], link⟩ ev = if e1.put.length < 60 then ⟨c, [e0, e1].set 1 (putM c e1 ev.data), [n0, n1], link⟩ else ⟨c, [e0, e1], [n0, n1], link⟩ := by
 obtain ⟨kind, who, at_, v, data⟩ := ev
 obtain ⟨mode, win, mps, mtu, tri⟩ := c
 dsimp only at *
 subst hm hk hw
 rfl
theorem step_send1 (c : Cfg) (link : Int) (e0 e1 : End) (n0 n1 : List Msg) (ev : Evt) (hm : c.mode = 2) (hk : ev.kind = 2) (hw : ev.who = 1) : step true ⟨c, [e0, e1], [n0, n1], link⟩ ev = if n0.length < 30 then sayO ⟨c, [e0, e1].set 1 { e1 with ctx := (crdSend e1.ctx).1 }, [n0, n1], link⟩ 1 (crdSend e1.ctx).2 else ⟨c, [e0, e1], [n0, n1], link⟩ := by
 obtain ⟨kind, who, at_, v, data⟩ := ev
 obtain ⟨mode, win, mps, mtu, tri⟩ := c
 dsimp only at *
 subst hm hk hw
 rfl
theorem step_tick1 (c : Cfg) (link : Int) (e0 e1 : End) (n0 n1 : List Msg) (ev : Evt) (hm : c.mode = 2) (hk : ev.kind = 3 ∨ ev.kind = 4 ∨ ev.kind = 5) (hw : ev.who = 1) : step true ⟨c, [e0, e1], [n0, n1], link⟩ ev = ⟨c, [e0, e1], [n0, n1], link⟩ := by
 obtain ⟨kind, who, at_, v, data⟩ := ev
 obtain ⟨mode, win, mps, mtu, tri⟩ := c
 dsimp only at *
 subst hm hw
 rcases hk with rfl | rfl | rfl <;> rfl
theorem step_grant1 (c : Cfg) (link : Int) (e0 e1 : End) (n0 n1 : List Msg) (ev : Evt) (hm : c.mode = 2) (hk : ev.kind = 6) (hw : ev.who = 1) : step true ⟨c, [e0, e1], [n0, n1], link⟩ ev = if n0.length < 30 then sayO ⟨c, [e0, e1].set 1 { e1 with crx := (crdGrant e1.crx).1 }, [n0, n1], link⟩ 1 (crdGrant e1.crx).2 else ⟨c, [e0, e1], [n0, n1], link⟩ := by
 obtain ⟨kind, who, at_, v, data⟩ := ev
 obtain ⟨mode, win, mps, mtu, tri⟩ := c
 dsimp only at *
 subst hm hk hw
 rfl
theorem step_lose1 (c : Cfg) (link : Int) (e0 e1 : End) (n0 n1 : List Msg) (ev : Evt) (hk : ev.kind = 8) (hw : ev.who = 1) : step true ⟨c, [e0, e1], [n0, n1], link⟩ ev = ⟨c, [e0, e1], [n0, n1].set 1 (n1.drop 1), link⟩ := by
 obtain ⟨kind, who, at_, v, data⟩ := ev
 dsimp only at *
 subst hk hw
 rfl
theorem step_hear1 (c : Cfg) (link : Int) (e0 e1 : End) (n0 n1 : List Msg) (ev : Evt) (hm : c.mode = 2) (hk : ev.kind = 7) (hw : ev.who = 1) : step true ⟨c, [e0, e1], [n0, n1], link⟩ ev = ⟨c, [e0, e1].set 1 (hear1C c e1 n1), [n0, n1].set 1 (n1.drop 1), link⟩ := by
 obtain ⟨kind, who, at_, v, data⟩ := ev
 obtain ⟨mode, win, mps, mtu, tri⟩ := c
 dsimp only at *
 subst hm hk hw
 cases n1 with
 | nil => rfl
 | cons a l =>
  show hear1 ⟨⟨2, win, mps, mtu, tri⟩, [e0, e1], [n0, a :: l], link⟩ 1 = _
  simp only [hear1, netAt, List.getD_cons_zero, List.getD_cons_succ, hear1C]
  cases frmRead a.bytes with
  | none => rfl
  | some f =>
   simp only [hearC]
   by_cases h4 : f.kind = 4
   ·simp only [hearF, h4]; rfl
   ·by_cases h3 : f.kind = 3
    ·simp only [hearF, h3]; rfl
    ·simp only [hearF, if_neg h4, if_neg h3]; rfl
theorem l9step_c0 (c : Cfg) (link : Int) (e0 e1 : End) (n0 n1 : List Msg) (m : WM) (ev : Evt) (v : Value) (z : Zc) (hv : By z ev.data v) (hd : ev.data.length ≤ 100000) (hR : WldR z e0 e1 n0 n1 m) (hW : WldI ⟨c, [e0, e1], [n0, n1], link⟩) (hm : c.mode = 2) (hw : ev.who = 0) (hk : 1 ≤ ev.kind ∧ ev.kind ≤ 8) :
  Spec Tryz.prog 63 [wldV c link m, vEvt ev v] z (wldA e0 e1 n0 n1 m) (WldH c (step true ⟨c, [e0, e1], [n0, n1], link⟩ ev)) := by
 have hI : EndI c e0 := hW.ends 0 (by omega)
 have hN : NetI n0 := hW.net 0 (by omega)
 have hNw : NetI n1 := hW.net 1 (by omega)
 have hp60 := hI.put.1
 have hn30 := hNw.1
 obtain ⟨kind, who, at_, vv, data⟩ := ev
 dsimp only at *
 subst hw
 obtain ⟨Av, kv, rfl, hkv, hBv, hrv⟩ := hv.form
 refine eB k63 ?_
 refine gO ?_
 refine tT ?_; refine callP (in_s 0 0 1 z) rfl rfl ?_; rintro _ _ - ⟨rfl, rfl⟩; refine gO ?_
 simp only [seval, go_sem, show inB 0 0 1 = true from rfl, show inB 1 0 1 = true from rfl]
 refine gO ?_
 have hk8 : kind = 1 ∨ kind = 2 ∨ kind = 3 ∨ kind = 4 ∨ kind = 5 ∨ kind = 6 ∨ kind = 7 ∨ kind = 8 := by omega
 rcases hk8 with rfl | rfl | rfl | rfl | rfl | rfl | rfl | rfl
 ·simp only [seval, go_sem]
  refine gO ?_
  by_cases h60 : e0.put.length < 60
  ·refine tT ?_; refine callW 1000 (l9put_c0 c link e0 e1 n0 n1 m data (.slice Av data.length kv) z hR hI hv hd hm h60) rfl rfl rfl rfl ?_; rintro u z1 A' hz1 ⟨e', he', f0, f1, g0, g1, m', hw1, hw2, hw3, rfl, rfl, hR3⟩; refine gO ?_
   refine fQ ?_
   rw [step_put0 c link e0 e1 n0 n1 _ hm rfl rfl, if_pos h60]
   subst he'
   exact ⟨f0, f1, g0, g1, m', hw1, hw2, hw3, rfl, rfl, hR3⟩
  ·refine tT ?_; refine callW 1000 (l9put_f0 c link e0 e1 n0 n1 m (.slice Av data.length kv) z hR data hv (by omega)) rfl rfl rfl rfl ?_; rintro u z1 A' hz1 ⟨f0, f1, g0, g1, m', hw1, hw2, hw3, rfl, rfl, hR3⟩; refine gO ?_
   refine fQ ?_
   rw [step_put0 c link e0 e1 n0 n1 _ hm rfl rfl, if_neg h60]
   exact ⟨f0, f1, g0, g1, m', hw1, hw2, hw3, rfl, rfl, hR3⟩
 ·simp only [seval, go_sem]
  refine gO ?_
  refine tT ?_; refine callW 1000 (l9send_c0 c link e0 e1 n0 n1 m z hR hI hm hn30) rfl rfl rfl rfl ?_; rintro u z1 A' hz1 ⟨f0, f1, g0, g1, m', hw1, hw2, hw3, rfl, rfl, hR3⟩; refine gO ?_
  refine fQ ?_
  rw [step_send0 c link e0 e1 n0 n1 _ hm rfl rfl]
  exact ⟨f0, f1, g0, g1, m', hw1, hw2, hw3, rfl, rfl, hR3⟩
 ·simp only [seval, go_sem]
  refine gO ?_
  refine tT ?_; refine callW 1000 (l9tick_c0 c link e0 e1 n0 n1 m z hR hm) rfl rfl rfl rfl ?_; rintro u z1 A' hz1 ⟨f0, f1, g0, g1, m', hw1, hw2, hw3, rfl, rfl, hR3⟩; refine gO ?_
  refine fQ ?_
  rw [step_tick0 c link e0 e1 n0 n1 _ hm (.inl rfl) rfl]
  exact ⟨f0, f1, g0, g1, m', hw1, hw2, hw3, rfl, rfl, hR3⟩
 ·simp only [seval, go_sem]
  refine gO ?_
  refine tT ?_; refine callW 1000 (l9say_c0 c link e0 e1 n0 n1 m ⟨4, 0, at_, vv, data⟩ (.slice Av data.length kv) z hv hR hI hm hn30 rfl (by simp)) rfl rfl rfl rfl ?_; rintro u z1 A' hz1 ⟨f0, f1, g0, g1, m', hw1, hw2, hw3, rfl, rfl, hR3⟩; refine gO ?_
  refine fQ ?_
  rw [step_tick0 c link e0 e1 n0 n1 _ hm (.inr (.inl rfl)) rfl]
  exact ⟨f0, f1, g0, g1, m', hw1, hw2, hw3, rfl, rfl, hR3⟩
 ·simp only [seval, go_sem]
  refine gO ?_
  refine tT ?_; refine callW 1000 (l9say_c0 c link e0 e1 n0 n1 m ⟨5, 0, at_, vv, data⟩ (.slice Av data.length kv) z hv hR hI hm hn30 rfl (by simp)) rfl rfl rfl rfl ?_; rintro u z1 A' hz1 ⟨f0, f1, g0, g1, m', hw1, hw2, hw3, rfl, rfl, hR3⟩; refine gO ?_
  refine fQ ?_
  rw [step_tick0 c link e0 e1 n0 n1 _ hm (.inr (.inr rfl)) rfl]
  exact ⟨f0, f1, g0, g1, m', hw1, hw2, hw3, rfl, rfl, hR3⟩
 ·simp only [seval, go_sem]
  refine gO ?_
  refine tT ?_; refine callW 1000 (l9say_c0 c link e0 e1 n0 n1 m ⟨6, 0, at_, vv, data⟩ (.slice Av data.length kv) z hv hR hI hm hn30 rfl (by simp)) rfl rfl rfl rfl ?_; rintro u z1 A' hz1 ⟨f0, f1, g0, g1, m', hw1, hw2, hw3, rfl, rfl, hR3⟩; refine gO ?_
  refine fQ ?_
  rw [step_grant0 c link e0 e1 n0 n1 _ hm rfl rfl]
  simp only [true_and] at hw1 hw2 hw3
  exact ⟨f0, f1, g0, g1, m', hw1, hw2, hw3, rfl, rfl, hR3⟩
 ·simp only [seval, go_sem]
  refine gO ?_
  refine tT ?_; refine callW 1000 (l9net_c0 c link e0 e1 n0 n1 m ⟨7, 0, at_, vv, data⟩ (.slice Av data.length kv) z hv hR hI hN hm rfl (.inl rfl)) rfl rfl rfl rfl ?_; rintro u z1 A' hz1 ⟨f0, f1, g0, g1, m', hw1, hw2, hw3, rfl, rfl, hR3⟩; refine gO ?_
  refine fQ ?_
  rw [step_hear0 c link e0 e1 n0 n1 _ hm rfl rfl]
  exact ⟨f0, f1, g0, g1, m', hw1, hw2, hw3, rfl, rfl, hR3⟩
 ·simp only [seval, go_sem]
  refine gO ?_
  refine tT ?_; refine callW 1000 (l9net_c0 c link e0 e1 n0 n1 m ⟨8, 0, at_, vv, data⟩ (.slice Av data.length kv) z hv hR hI hN hm rfl (.inr rfl)) rfl rfl rfl rfl ?_; rintro u z1 A' hz1 ⟨f0, f1, g0, g1, m', hw1, hw2, hw3, rfl, rfl, hR3⟩; refine gO ?_
  refine fQ ?_
  rw [step_lose0 c link e0 e1 n0 n1 _ rfl rfl]
  refine ⟨f0, f1, g0, g1, m', hw1, ?_, hw3, rfl, rfl, hR3⟩
  rw [← hw2]
  rfl
theorem l9step_c1 (c : Cfg) (link : Int) (e0 e1 : End) (n0 n1 : List Msg) (m : WM) (ev : Evt) (v : Value) (z : Zc) (hv : By z ev.data v) (hd : ev.data.length ≤ 100000) (hR : WldR z e0 e1 n0 n1 m) (hW : WldI ⟨c, [e0, e1], [n0, n1], link⟩) (hm : c.mode = 2) (hw : ev.who = 1) (hk : 1 ≤ ev.kind ∧ ev.kind ≤ 8) :
  Spec Tryz.prog 63 [wldV c link m, vEvt ev v] z (wldA e0 e1 n0 n1 m) (WldH c (step true ⟨c, [e0, e1], [n0, n1], link⟩ ev)) := by
 have hI : EndI c e1 := hW.ends 1 (by omega)
 have hN : NetI n1 := hW.net 1 (by omega)
 have hNw : NetI n0 := hW.net 0 (by omega)
 have hp60 := hI.put.1
 have hn30 := hNw.1
 obtain ⟨kind, who, at_, vv, data⟩ := ev
 dsimp only at *
 subst hw
 obtain ⟨Av, kv, rfl, hkv, hBv, hrv⟩ := hv.form
 refine eB k63 ?_
 refine gO ?_
 refine tT ?_; refine callP (in_s 1 0 1 z) rfl rfl ?_; rintro _ _ - ⟨rfl, rfl⟩; refine gO ?_
 simp only [seval, go_sem, show inB 0 0 1 = true from rfl, show inB 1 0 1 = true from rfl]
 refine gO ?_
 have hk8 : kind = 1 ∨ kind = 2 ∨ kind = 3 ∨ kind = 4 ∨ kind = 5 ∨ kind = 6 ∨ kind = 7 ∨ kind = 8 := by omega
 rcases hk8 with rfl | rfl | rfl | rfl | rfl | rfl | rfl | rfl
 ·simp only [seval, go_sem]
  refine gO ?_
  by_cases h60 : e1.put.length < 60
  ·refine tT ?_; refine callW 1000 (l9put_c1 c link e0 e1 n0 n1 m data (.slice Av data.length kv) z hR hI hv hd hm h60) rfl rfl rfl rfl ?_; rintro u z1 A' hz1 ⟨e', he', f0, f1, g0, g1, m', hw1, hw2, hw3, rfl, rfl, hR3⟩; refine gO ?_
   refine fQ ?_
   rw [step_put1 c link e0 e1 n0 n1 _ hm rfl rfl, if_pos h60]
   subst he'
   exact ⟨f0, f1, g0, g1, m', hw1, hw2, hw3, rfl, rfl, hR3⟩
  ·refine tT ?_; refine callW 1000 (l9put_f1 c link e0 e1 n0 n1 m (.slice Av data.length kv) z hR data hv (by omega)) rfl rfl rfl rfl ?_; rintro u z1 A' hz1 ⟨f0, f1, g0, g1, m', hw1, hw2, hw3, rfl, rfl, hR3⟩; refine gO ?_
   refine fQ ?_
   rw [step_put1 c link e0 e1 n0 n1 _ hm rfl rfl, if_neg h60]
   exact ⟨f0, f1, g0, g1, m', hw1, hw2, hw3, rfl, rfl, hR3⟩
 ·simp only [seval, go_sem]
  refine gO ?_
  refine tT ?_; refine callW 1000 (l9send_c1 c link e0 e1 n0 n1 m z hR hI hm hn30) rfl rfl rfl rfl ?_; rintro u z1 A' hz1 ⟨f0, f1, g0, g1, m', hw1, hw2, hw3, rfl, rfl, hR3⟩; refine gO ?_
  refine fQ ?_
  rw [step_send1 c link e0 e1 n0 n1 _ hm rfl rfl]
  exact ⟨f0, f1, g0, g1, m', hw1, hw2, hw3, rfl, rfl, hR3⟩
 ·simp only [seval, go_sem]
  refine gO ?_
  refine tT ?_; refine callW 1000 (l9tick_c1 c link e0 e1 n0 n1 m z hR hm) rfl rfl rfl rfl ?_; rintro u z1 A' hz1 ⟨f0, f1, g0, g1, m', hw1, hw2, hw3, rfl, rfl, hR3⟩; refine gO ?_
  refine fQ ?_
  rw [step_tick1 c link e0 e1 n0 n1 _ hm (.inl rfl) rfl]
  exact ⟨f0, f1, g0, g1, m', hw1, hw2, hw3, rfl, rfl, hR3⟩
 ·simp only [seval, go_sem]
  refine gO ?_
  refine tT ?_; refine callW 1000 (l9say_c1 c link e0 e1 n0 n1 m ⟨4, 1, at_, vv, data⟩ (.slice Av data.length kv) z hv hR hI hm hn30 rfl (by simp)) rfl rfl rfl rfl ?_; rintro u z1 A' hz1 ⟨f0, f1, g0, g1, m', hw1, hw2, hw3, rfl, rfl, hR3⟩; refine gO ?_
  refine fQ ?_
  rw [step_tick1 c link e0 e1 n0 n1 _ hm (.inr (.inl rfl)) rfl]
  exact ⟨f0, f1, g0, g1, m', hw1, hw2, hw3, rfl, rfl, hR3⟩
 ·simp only [seval, go_sem]
  refine gO ?_
  refine tT ?_; refine callW 1000 (l9say_c1 c link e0 e1 n0 n1 m ⟨5, 1, at_, vv, data⟩ (.slice Av data.length kv) z hv hR hI hm hn30 rfl (by simp)) rfl rfl rfl rfl ?_; rintro u z1 A' hz1 ⟨f0, f1, g0, g1, m', hw1, hw2, hw3, rfl, rfl, hR3⟩; refine gO ?_
  refine fQ ?_
  rw [step_tick1 c link e0 e1 n0 n1 _ hm (.inr (.inr rfl)) rfl]
  exact ⟨f0, f1, g0, g1, m', hw1, hw2, hw3, rfl, rfl, hR3⟩
 ·simp only [seval, go_sem]
  refine gO ?_
  refine tT ?_; refine callW 1000 (l9say_c1 c link e0 e1 n0 n1 m ⟨6, 1, at_, vv, data⟩ (.slice Av data.length kv) z hv hR hI hm hn30 rfl (by simp)) rfl rfl rfl rfl ?_; rintro u z1 A' hz1 ⟨f0, f1, g0, g1, m', hw1, hw2, hw3, rfl, rfl, hR3⟩; refine gO ?_
  refine fQ ?_
  rw [step_grant1 c link e0 e1 n0 n1 _ hm rfl rfl]
  simp only [true_and] at hw1 hw2 hw3
  exact ⟨f0, f1, g0, g1, m', hw1, hw2, hw3, rfl, rfl, hR3⟩
 ·simp only [seval, go_sem]
  refine gO ?_
  refine tT ?_; refine callW 1000 (l9net_c1 c link e0 e1 n0 n1 m ⟨7, 1, at_, vv, data⟩ (.slice Av data.length kv) z hv hR hI hN hm rfl (.inl rfl)) rfl rfl rfl rfl ?_; rintro u z1 A' hz1 ⟨f0, f1, g0, g1, m', hw1, hw2, hw3, rfl, rfl, hR3⟩; refine gO ?_
  refine fQ ?_
  rw [step_hear1 c link e0 e1 n0 n1 _ hm rfl rfl]
  exact ⟨f0, f1, g0, g1, m', hw1, hw2, hw3, rfl, rfl, hR3⟩
 ·simp only [seval, go_sem]
  refine gO ?_
  refine tT ?_; refine callW 1000 (l9net_c1 c link e0 e1 n0 n1 m ⟨8, 1, at_, vv, data⟩ (.slice Av data.length kv) z hv hR hI hN hm rfl (.inr rfl)) rfl rfl rfl rfl ?_; rintro u z1 A' hz1 ⟨f0, f1, g0, g1, m', hw1, hw2, hw3, rfl, rfl, hR3⟩; refine gO ?_
  refine fQ ?_
  rw [step_lose1 c link e0 e1 n0 n1 _ rfl rfl]
  refine ⟨f0, f1, g0, g1, m', hw1, ?_, hw3, rfl, rfl, hR3⟩
  rw [← hw2]
  rfl
set_option maxHeartbeats 4000000
set_option linter.defProp false
def k33 := mkK [(.t 2)] [] [] Tryz.func33 Tryz.ntmps33 rfl
def k35 := mkK [(.t 4)] [] [(7,[],.l [0,4,8,13,16,20,24,28,33,36,40,44,49,52,56,60,64,68,73,76,80,84,88,92,96,101,104,108,112,117,120,124,128,132,136,140,144,148,152,156,161,164,168,172,176,180])] Tryz.func35 Tryz.ntmps35 rfl
def k78 := mkK [(.t 4)] [] [] Tryz.func78 Tryz.ntmps78 rfl
def k88 := mkK [(.t 4)] [] [] Tryz.func88 Tryz.ntmps88 rfl
def k77 := mkK [(.c 2 3 true)] [] [(7,[],.l [0,5,8,12,16,20,25,28,32,38,40,44,51])] Tryz.func77 Tryz.ntmps77 rfl
def k51 := mkK [(.c 4 9 true)] [] [(6,[5],.l [0,8,16,28,33,36,41,44,49,6,14,22,24,52,58])] Tryz.func51 Tryz.ntmps51 rfl
def k62 := mkK [(.c 8 5 true)] [] [(6,[8],.l [0,4,8,12,17,20,26,28,34,36,42])] Tryz.func62 Tryz.ntmps62 rfl
def k34 := mkK [(.c 10 5 true),(.t 11),(.c 12 8 true)] [] [(12,[10,12],.l [1,4,9,14,18,20,26])] Tryz.func34 Tryz.ntmps34 rfl
def k19 := mkK [(.t 0)] [] [] Tryz.func19 Tryz.ntmps19 rfl
set_option maxHeartbeats 1000000
abbrev rdA (b : Nat) (A : Option Addr) (n c : Nat) (p : Int) : Asrt := ptrA 95 b [.slice A n c, .int .i64 p]
theorem pick_s (b : Nat) (A : Option Addr) (c : Nat) (code : List Int) (p n : Int) (z : Zc) (hb : By z code (.slice A code.length c)) (hp : 0 ≤ p ∧ p ≤ 1000000) (hl : code.length ≤ 2000) (hn : -1000000 ≤ n ∧ n ≤ 1000000) :
  Spec Tryz.prog 35 [.pointer (some ⟨b, 0, none⟩), .int .i64 n] z (starL [rdA b A code.length c p]) fun v z' A' => ∃ x : Int, v = .int .i64 x ∧ A' = starL [rdA b A code.length c (p + 1)] ∧ z = z' ∧ 0 ≤ x ∧ (1 ≤ n → x < n) ∧ (n < 1 → x = 0) := by
 obtain ⟨A', c', hs, hc, hB, hr⟩ := hb.form
 injection hs with e1 _ e3
 subst e1
 subst e3
 have w1 : IntKind.i64.wrap (p + 1) = p + 1 := wrap_in (by omega) (by omega)
 have w2 : IntKind.i64.wrap (p + 1 - 1) = p := by rw [wrap_in (by omega) (by omega)]; omega
 refine eQ [] k35 ?_
 refine gO ?_
 simp only [w1]
 (with_reducible refine guardR.split (fun hg => ?_) (fun hg => ?_) <;> (try simp only [hg]) <;> simp only [seval, go_sem])
 ·refine gO ?_
  (refine FinV.give 1000 0 2001 2000 rfl rfl rfl ?_); simp only [seval, go_sem, giveSt, subV, subC, subE, subL]
  (refine FinV.pk 999 [1000] ?_); dsimp only
  refine fP ?_
  have : n < 1 := by simpa using hg
  exact ⟨0, rfl, by omega, by omega, by omega⟩
 ·have hn1 : 1 ≤ n := by simp at hg; omega
  refine gO ?_
  (with_reducible refine condI.split (fun hg => ?_) (fun hg => ?_) <;> (try simp only [hg]) <;> (try simp only [seval, go_sem]))
  ·refine gO ?_
   (refine FinV.give 1000 0 2001 2000 rfl rfl rfl ?_); simp only [seval, go_sem, giveSt, subV, subC, subE, subL]
   (refine FinV.pk 999 [1000] ?_); dsimp only
   refine fP ?_
   exact ⟨0, rfl, by omega, by omega, by omega⟩
  ·have hl0 : 0 < code.length := by simp at hg; exact List.length_pos_iff.2 hg
   have hat : IsAt A := byte_is hr hl0
   refine gO ?_
   simp only [w2]
   (with_reducible refine condI.split (fun hg => ?_) (fun hg => ?_) <;> (try simp only [hg]) <;> (try simp only [seval, go_sem]))
   ·have hpl : p.toNat < code.length := by simp at hg; omega
    obtain ⟨x, hx⟩ : ∃ x, code[p.toNat]? = some x := ⟨_, List.getElem?_eq_getElem hpl⟩
    have hx255 := hB x (List.mem_of_getElem? hx)
    refine gO ?_
    (refine ⟨⟨by omega, by omega, hat⟩, ?_⟩; (try simp only [seval, go_sem]))
    (refine ldF.one _ (by first | exact .inl (byte_at hr (k := p.toNat) hx) | exact (byte_at hr (k := p.toNat) hx)) ?_; (try simp only [seval, go_sem]))
    refine ⟨by omega, ?_⟩
    refine gO ?_
    (refine FinV.give 1000 0 2001 2000 rfl rfl rfl ?_); simp only [seval, go_sem, giveSt, subV, subC, subE, subL]
    (refine FinV.pk 999 [1000] ?_); dsimp only
    refine fP ?_
    rw [wrap_in (by omega) (by omega), Int.tmod_eq_emod_of_nonneg (by omega)]
    exact ⟨_, rfl, Int.emod_nonneg _ (by omega), fun _ => Int.emod_lt_of_pos _ (by omega), by omega⟩
   ·refine gO ?_
    obtain ⟨q, rfl⟩ := Int.eq_ofNat_of_zero_le hp.1
    have hm1 : q % code.length < code.length := Nat.mod_lt _ hl0
    have hm2 : (q * 7 + 3) % code.length < code.length := Nat.mod_lt _ hl0
    have hq : q / code.length ≤ q := Nat.div_le_self _ _
    obtain ⟨x, hx⟩ : ∃ x, code[q % code.length]? = some x := ⟨_, List.getElem?_eq_getElem hm1⟩
    obtain ⟨y, hy⟩ : ∃ y, code[(q * 7 + 3) % code.length]? = some y := ⟨_, List.getElem?_eq_getElem hm2⟩
    have hx255 := hB x (List.mem_of_getElem? hx)
    have hy255 := hB y (List.mem_of_getElem? hy)
    have t1 : (q : Int).tmod (code.length : Int) = ((q % code.length : Nat) : Int) := rfl
    have t2 : (IntKind.i64.wrap (IntKind.i64.wrap ((q : Int) * 7) + 3)).tmod (code.length : Int) = (((q * 7 + 3) % code.length : Nat) : Int) := by
     rw [wrap_in (n := (q : Int) * 7) (by omega) (by omega), wrap_in (by omega) (by omega)]
     exact (show (((q * 7 + 3 : Nat) : Int)).tmod (code.length : Int) = _ from rfl)
    have t3 : (q : Int).tdiv (code.length : Int) = ((q / code.length : Nat) : Int) := rfl
    simp only [t1, t2, t3]
    refine ⟨by omega, ?_⟩
    (refine ⟨⟨by omega, by omega, hat⟩, ?_⟩; (try simp only [seval, go_sem]))
    (refine ldF.one _ (by first | exact .inl (byte_at hr hx) | exact (byte_at hr hx)) ?_; (try simp only [seval, go_sem]))
    refine gO ?_
    simp only [t2]
    refine ⟨by omega, ?_⟩
    (refine ⟨⟨by omega, by omega, hat⟩, ?_⟩; (try simp only [seval, go_sem]))
    (refine ldF.one _ (by first | exact .inl (byte_at hr hy) | exact (byte_at hr hy)) ?_; (try simp only [seval, go_sem]))
    refine gO ?_
    refine ⟨by omega, ?_⟩
    simp only [t3]
    refine gO ?_
    refine ⟨by omega, ?_⟩
    refine gO ?_
    (refine FinV.give 1000 0 2001 2000 rfl rfl rfl ?_); simp only [seval, go_sem, giveSt, subV, subC, subE, subL]
    (refine FinV.pk 999 [1000] ?_); dsimp only
    refine fP ?_
    obtain ⟨x, rfl⟩ := Int.eq_ofNat_of_zero_le hx255.1
    obtain ⟨y, rfl⟩ := Int.eq_ofNat_of_zero_le hy255.1
    generalize hd : q / code.length = d at *
    have hX : IntKind.i64.wrap (IntKind.i64.wrap (IntKind.i64.wrap (IntKind.i64.wrap (IntKind.i64.wrap (x : Int) * 131) + IntKind.i64.wrap (IntKind.i64.wrap (y : Int) * 1117)) + IntKind.i64.wrap ((q : Int) * 29)) + IntKind.i64.wrap (IntKind.i64.wrap (d : Int) * 53)) = ((x * 131 + y * 1117 + q * 29 + d * 53 : Nat) : Int) := by
     simp (disch := omega) only [wrap_in]
     omega
    rw [hX]
    generalize hY : x * 131 + y * 1117 + q * 29 + d * 53 = Y
    have hYb : Y < 2 ^ 40 := by omega
    have h64 : (Y : Int).tdiv 64 = ((Y / 64 : Nat) : Int) := rfl
    rw [h64, wrap_in (by omega) (by omega), bits_xor_i64 Y (Y / 64) (by omega) (by omega)]
    obtain ⟨n', rfl⟩ := Int.eq_ofNat_of_zero_le (show 0 ≤ n by omega)
    exact ⟨((Y ^^^ (Y / 64)) % n' : Nat), rfl, by omega, fun _ => by have := Nat.mod_lt (Y ^^^ (Y / 64)) (show 0 < n' by omega); omega, by omega⟩
theorem FinV.giveN {s : St} {fr : List FR} {R : Value → Zc → Asrt → Prop} (k j m : Nat) {e : Nat} {cs : List SC} {vs : List Value} (hk : look j s.L = some (.cells e cs)) (hv : allV cs = some vs) (h : ∀ b, FinV fr (giveSt s k j m b e vs) R) : FinV fr s R := fun C ρ a w hs => by
 obtain ⟨b, _, hs'⟩ := hs.give k j m hk hv
 exact h b C ρ a w hs'
theorem open_s (code : List Int) (v : Value) (z : Zc) (h : By z code v) (hl : code.length ≤ 1000000000) : Spec Tryz.prog 33 [v] z emp fun u z' A' => ∃ b A c cd, u = .pointer (some ⟨b, 0, none⟩) ∧ A' = starL [rdA b A cd.length c 0] ∧ cd.length ≤ 2000 ∧ By z' cd (.slice A cd.length c) := by
 obtain ⟨A, c, rfl, hc, hB, hr⟩ := h.form
 refine eA k33 ?_
 refine gO ?_
 (with_reducible refine condI.split (fun hg => ?_) (fun hg => ?_) <;> (try simp only [hg]) <;> (try simp only [seval, go_sem]))
 ·have h2 : 2000 < code.length := by have := of_decide_eq_true hg; omega
  refine gO ?_
  refine ⟨by omega, ?_⟩; refine gO ?_
  refine FinV.giveN 90 0 91 rfl rfl fun b => ?_
  simp only [seval, go_sem, giveSt, subV, subC, subE, subL]
  (refine FinV.pk 92 [90] ?_); dsimp only
  (((try simp only [seval, go_sem]);repeat((with_reducible first|refine vJ ?_|refine vK ?_);try simp only [seval, go_sem])); refine FinV.own 92 rfl ?_; simp only [finE, finS, gt, look, SV.toV, SC.toV, allV, tupV, zq1, zq2, zq3, zq4, Nat.reduceAdd, Nat.reduceEqDiff, reduceCtorEq, if_true, if_false, reduceIte, Nat.succ_ne_self, true_and, zq5, zq7, zq8])
  have hk : By z (code.take 2000) (.slice A 2000 c) := Sl.take h (by omega) (by omega)
  have hk2 : (code.take 2000).length = 2000 := by simp; omega
  exact ⟨b, A, c, code.take 2000, rfl, by rw [hk2], by omega, by rw [hk2]; exact hk⟩
 ·have h2 : code.length ≤ 2000 := by have := of_decide_eq_false hg; omega
  refine gO ?_
  refine FinV.giveN 90 0 91 rfl rfl fun b => ?_
  simp only [seval, go_sem, giveSt, subV, subC, subE, subL]
  (refine FinV.pk 92 [90] ?_); dsimp only
  (((try simp only [seval, go_sem]);repeat((with_reducible first|refine vJ ?_|refine vK ?_);try simp only [seval, go_sem])); refine FinV.own 92 rfl ?_; simp only [finE, finS, gt, look, SV.toV, SC.toV, allV, tupV, zq1, zq2, zq3, zq4, Nat.reduceAdd, Nat.reduceEqDiff, reduceCtorEq, if_true, if_false, reduceIte, Nat.succ_ne_self, true_and, zq5, zq7, zq8])
  exact ⟨b, A, c, code, rfl, rfl, h2, h⟩
theorem odd0 (b : Nat) (A : Option Addr) (n c : Nat) (p : Int) (z : Zc) : Spec Tryz.prog 78 [.pointer (some ⟨b, 0, none⟩), .int .i64 0] z (starL [rdA b A n c p]) fun v z' A' => v = .bool false ∧ A' = starL [rdA b A n c p] ∧ z = z' := by
 refine eB k78 ?_
 refine gO ?_
 try simp only [seval, go_sem, show decide ((0 : Int) > 0) = false from rfl]
 refine gO ?_
 (((try simp only [seval, go_sem]);repeat((with_reducible first|refine vJ ?_|refine vK ?_);try simp only [seval, go_sem])); refine FinV.own 1000 rfl ?_; simp only [finE, finS, gt, look, SV.toV, SC.toV, allV, tupV, zq1, zq2, zq3, zq4, Nat.reduceAdd, Nat.reduceEqDiff, reduceCtorEq, if_true, if_false, reduceIte, Nat.succ_ne_self, true_and, zq5, zq7, zq8])
structure BytS where
 k : Nat
 out : List Int
 v : Value
 p : Int
theorem bytes_s (b : Nat) (A : Option Addr) (c : Nat) (code : List Int) (p n : Int) (z : Zc) (hb : By z code (.slice A code.length c)) (hp : 0 ≤ p ∧ p ≤ 900000) (hl : code.length ≤ 2000) (hn : 0 ≤ n ∧ n ≤ 1000) :
  Spec Tryz.prog 88 [.pointer (some ⟨b, 0, none⟩), .int .i64 n] z (starL [rdA b A code.length c p]) fun v z' A' => ∃ (out : List Int) (B : Option Addr) (k : Nat) (p' : Int), v = .slice B out.length k ∧ A' = starL [rdA b A code.length c p'] ∧ By z' out (.slice B out.length k) ∧ (out.length : Int) ≤ n ∧ p ≤ p' ∧ p' ≤ p + 1 + 3 * n := by
 refine eB k88 ?_
 refine gO ?_
 have w1 : IntKind.i64.wrap (n + 1) = n + 1 := wrap_in (by omega) (by omega)
 simp only [w1]
 refine tT ?_; refine callW 1000 (pick_s b A c code p (n + 1) z hb (by omega) hl (by omega)) rfl rfl rfl rfl ?_; rintro v z1 A' hz1 ⟨x, rfl, rfl, rfl, hx0, hx1, hx2⟩; refine gO ?_
 obtain ⟨k0, rfl⟩ := Int.eq_ofNat_of_zero_le hx0
 refine loopV.toRow 90 0 rfl rfl (m := 0) (sz := 1) rfl (by omega) (fun b0 => ?_)
 simp only [seval, go_sem, rowSt, subV, subC, subE, subL]
 refine loop_upd (ι := BytS) (n := 1) (fun s => s.k + s.out.length = k0 ∧ Bys s.out ∧ s.p = p + 1 + 3 * s.out.length) (fun s => [(6, .c (.v (.int .i64 s.k))), (5, .c (.v s.v))]) (fun s => [(1000, .own (starL [rdA b A code.length c s.p])), (90, .own (rowA 5 1 s.v s.out.length (bc s.out)))]) (fun _ => z) (fun s => s.k) ⟨k0, [], .slice (some ⟨b0, 0, none⟩) 0 0, p + 1⟩ ⟨by simp, by simp [Bys], by simp⟩ (by (simp only [wrI, wrR, anyL, st, List.append_nil, List.nil_append, List.cons_append]); exact rfl) ?_ ?_
 ·exact lE
 ·rintro ⟨k, out, v, p1⟩ ⟨hk, hB, hp1⟩
  dsimp only at *
  refine gO ?_
  (with_reducible refine condI.split (fun hg => ?_) (fun hg => ?_) <;> (try simp only [hg]) <;> (try simp only [seval, go_sem]))
  ·have hk0 : 0 < k := by have := of_decide_eq_true hg; omega
   refine gO ?_
   refine tT ?_; refine callW 1000 (pick_s b A c code p1 256 z hb (by omega) hl (by omega)) rfl rfl rfl rfl ?_; rintro v1 z1 A' hz1 ⟨y1, rfl, rfl, rfl, hy1, _, _⟩; refine gO ?_
   refine tT ?_; refine callW 1000 (pick_s b A c code (p1 + 1) 4 z hb (by omega) hl (by omega)) rfl rfl rfl rfl ?_; rintro v2 z1 A' hz2 ⟨y2, rfl, rfl, rfl, hy2, _, _⟩; refine gO ?_
   refine tT ?_; refine callW 1000 (pick_s b A c code (p1 + 1 + 1) 3 z hb (by omega) hl (by omega)) rfl rfl rfl rfl ?_; rintro v3 z1 A' hz3 ⟨y3, rfl, rfl, rfl, hy3, hy3', _⟩; refine gO ?_
   have hw2 : IntKind.i64.wrap ((k : Int) - 1) = ((k - 1 : Nat) : Int) := by rw [wrap_in (by omega) (by omega)]; omega
   refine ⟨⟨hy3, by omega⟩, by omega, ?_⟩
   have hy : y3 = 0 ∨ y3 = 1 ∨ y3 = 2 := by have := hy3' (by omega); omega
   have hu8 : ∀ y : Int, 0 ≤ IntKind.u8.wrap y ∧ IntKind.u8.wrap y ≤ 255 := fun y => by rw [IntKind.wrap_u8]; omega
   rcases hy with rfl | rfl | rfl
   ·simp only [seval, go_sem, Int.reduceToNat]
    refine gO ?_
    refine aT ?_; (refine appM_new 90 atyB rfl rfl rfl rfl rfl rfl rfl (by simp [Value.oneCell']) (by omega) (fun v4 => ?_)); refine gO ?_
    simp only [hw2]
    refine ⟨⟨k - 1, out ++ [IntKind.u8.wrap y1], v4, p1 + 1 + 1 + 1⟩, ⟨by simp; omega, Bys.append hB (fun x hx => by rw [List.mem_singleton.1 hx]; exact hu8 _), by simp; omega⟩, by dsimp only; omega, ?_⟩
    rw [show out.length + 1 = (out ++ [IntKind.u8.wrap y1]).length by simp, show bc out ++ [Value.int .u8 (IntKind.u8.wrap y1)] = bc (out ++ [IntKind.u8.wrap y1]) by simp [bc]]
    exact lE
   ·simp only [seval, go_sem, Int.reduceToNat]
    refine gO ?_
    refine aT ?_; (refine appM_new 90 atyB rfl rfl rfl rfl rfl rfl rfl (by simp [Value.oneCell']) (by omega) (fun v4 => ?_)); refine gO ?_
    simp only [hw2]
    refine ⟨⟨k - 1, out ++ [IntKind.u8.wrap y2], v4, p1 + 1 + 1 + 1⟩, ⟨by simp; omega, Bys.append hB (fun x hx => by rw [List.mem_singleton.1 hx]; exact hu8 _), by simp; omega⟩, by dsimp only; omega, ?_⟩
    rw [show out.length + 1 = (out ++ [IntKind.u8.wrap y2]).length by simp, show bc out ++ [Value.int .u8 (IntKind.u8.wrap y2)] = bc (out ++ [IntKind.u8.wrap y2]) by simp [bc]]
    exact lE
   ·simp only [seval, go_sem, Int.reduceToNat]
    refine gO ?_
    refine aT ?_; (refine appM_new 90 atyB rfl rfl rfl rfl rfl rfl rfl (by simp [Value.oneCell']) (by omega) (fun v4 => ?_)); refine gO ?_
    simp only [hw2]
    refine ⟨⟨k - 1, out ++ [IntKind.u8.wrap 255], v4, p1 + 1 + 1 + 1⟩, ⟨by simp; omega, Bys.append hB (fun x hx => by rw [List.mem_singleton.1 hx]; exact hu8 _), by simp; omega⟩, by dsimp only; omega, ?_⟩
    rw [show out.length + 1 = (out ++ [IntKind.u8.wrap 255]).length by simp, show bc out ++ [Value.int .u8 (IntKind.u8.wrap 255)] = bc (out ++ [IntKind.u8.wrap 255]) by simp [bc]]
    exact lE
  ·have hk0 : k = 0 := by have := of_decide_eq_false hg; omega
   refine gO ?_
   (refine FinV.frzR 90 rfl (fun A4 c4 z4 hv4 hc4 hz4 hr4 => ?_)); dsimp only at hz4; (try subst hv4); simp only [seval, go_sem]
   refine fQ ?_
   exact ⟨out, A4, c4, p1, rfl, rfl, By.mk hc4 hB hr4, by omega, by omega, by omega⟩
def EvC (ev : Evt) : Prop := (1 ≤ ev.kind ∧ ev.kind ≤ 7) ∧ (ev.who = 0 ∨ ev.who = 1) ∧ ev.data.length ≤ 100
mutual
def roundsV (P : Program) (ic : IC) (K : Exit → St → Prop) : Nat → St → Prop
 | 0, _ => False
 | n + 1, s => vcI P ic s (roundK P ic K n)
def roundK (P : Program) (ic : IC) (K : Exit → St → Prop) : Nat → Exit → St → Prop
 | n, .normal, s => roundsV P ic K n s
 | _, e, s => K e s
end
section
variable {P : Program} {ic : IC} {K : Exit → St → Prop} {s : St}
theorem roundsV_succ {n : Nat} : roundsV P ic K (n + 1) s = vcI P ic s (roundK P ic K n) := by rw [roundsV]
theorem roundK_normal {n : Nat} : roundK P ic K n .normal s = roundsV P ic K n s := by rw [roundK]
theorem roundK_exit {n x : Nat} : roundK P ic K n (.exit x) s = K (.exit x) s := by rw [roundK]; simp
theorem roundK_ret {n : Nat} : roundK P ic K n .ret s = K .ret s := by rw [roundK]; simp
theorem loopV.rounds (n : Nat) (h : roundsV P ic K n s) : loopV P ic s K := fun pl c hc C ρ a w hs => by
 refine wp_loop_rounds n ?_
 induction n generalizing s ρ a w with
 | zero => rw [roundsV] at h; exact h.elim
 | succ n ih =>
  rw [roundsV_succ] at h
  rw [rounds_succ]
  refine wp_mono (vcI_sound c ic hc s _ C ρ a w h hs) ?_
  rintro e a' w' ⟨hp, s', ρ', hk, hs'⟩
  cases e with
  | normal => rw [roundK_normal] at hk; exact ih hk ρ' a' w' hs'
  | exit id => rw [roundK_exit] at hk; exact ⟨hp, s', ρ', hk, hs'⟩
  | ret => rw [roundK_ret] at hk; exact ⟨hp, s', ρ', hk, hs'⟩
  | goto l => rw [roundK] at hk; exact ⟨hp, s', ρ', hk, hs'⟩; simp
  | panic c => exact hp.elim
  | outgrown => exact hp.elim
end
theorem atyE : AppTy Tryz.prog 28 50 28 := AppTy.of (by kernel_rfl)
theorem atyN : AppTy Tryz.prog 29 53 1 := AppTy.of (by kernel_rfl)
theorem Tf.addE {s : St} (k : Nat) (hk : look k s.L = none) : Tf s ⟨s.t, (k, .own (starL [])) :: s.L, s.z, s.n⟩ :=
 Tf.mk' (fun {ρ w F} hh => ⟨fun _ => False, F, fun _ h => h, hh, fun _ h => h.elim, fun b => by simp⟩) fun {j e cs} hj => by
  by_cases e' : k = j
  ·subst e'; rw [hk] at hj; cases hj
  ·show (if k = j then _ else _) = _
   rw [if_neg e']; exact hj
theorem new_s (c : Cfg) (z : Zc) (hc : cfgOk c = true) : Spec Tryz.prog 61 [vCfg c] z emp (WldH c (wldNew c)) := by
 refine eA k61 ?_
 refine gO ?_
 refine tT ?_; refine callP (cfgok_s c z) rfl rfl ?_; rintro _ _ - ⟨rfl, rfl⟩; refine gO ?_
 simp only [seval, go_sem, hc]
 refine gO ?_
 refine loopV.tf (Tf.nilRow 10 tyE 28 rfl) ?_
 refine loopV.tf (Tf.nilRow 11 tyN 1 rfl) ?_
 dsimp only
 refine loopV.rounds 3 ?_
 rw [roundsV_succ]
 refine gO ?_
 refine aT ?_; (refine appM_newF 10 atyE rfl rfl rfl rfl rfl rfl rfl (by simp [Value.oneCell']) (by omega) (fun A1 Ac1 hA1 hA1x => ?_)); refine gO ?_
 (refine appT.toRow 40 4 (m := 0) (sz := 2) rfl rfl rfl (by omega) (fun b => ?_)); simp only [seval, go_sem, rowSt, subV, subC, subE, subL]
 refine aT ?_; (refine appM_newF 11 atyN rfl rfl rfl rfl rfl rfl rfl (by simp [Value.oneCell']) (by omega) (fun A2 Ac2 hA2 hA2x => ?_)); refine gO ?_
 simp only [seval, go_sem, roundK_normal]
 rw [roundsV_succ]
 try simp only [show IntKind.i64.wrap 1 = 1 from rfl]
 refine gO ?_
 refine aT ?_; (refine appM_newF 10 atyE rfl rfl rfl rfl rfl rfl rfl (by simp [Value.oneCell']) (by omega) (fun B1 Bc1 hB1 hB1x => ?_)); refine gO ?_
 (refine appT.toRow 50 7 (m := 0) (sz := 2) rfl rfl rfl (by omega) (fun b => ?_)); simp only [seval, go_sem, rowSt, subV, subC, subE, subL]
 refine aT ?_; (refine appM_newF 11 atyN rfl rfl rfl rfl rfl rfl rfl (by simp [Value.oneCell']) (by omega) (fun B2 Bc2 hB2 hB2x => ?_)); refine gO ?_
 simp only [seval, go_sem, roundK_normal]
 rw [roundsV_succ]
 try simp only [show IntKind.i64.wrap 2 = 2 from rfl]
 refine gO ?_
 simp only [seval, go_sem, roundK_exit]
 refine gO ?_
 refine FinV.tf (Tf.nilRow 20 tyP 3 rfl) ?_
 refine FinV.tf (Tf.nilRow 21 tyP 3 rfl) ?_
 refine FinV.tf (Tf.nilRow 22 tyS 1 rfl) ?_
 refine FinV.tf (Tf.nilRow 23 tyS 1 rfl) ?_
 refine FinV.tf (Tf.nilRow 30 tyP 3 rfl) ?_
 refine FinV.tf (Tf.nilRow 31 tyP 3 rfl) ?_
 refine FinV.tf (Tf.nilRow 32 tyS 1 rfl) ?_
 refine FinV.tf (Tf.nilRow 33 tyS 1 rfl) ?_
 refine FinV.tf (Tf.addE 41 rfl) ?_
 refine FinV.tf (Tf.addE 51 rfl) ?_
 dsimp only
 refine wS ?_
 rw [show wldNew c = ⟨c, [end0, end0], [[], []], 0⟩ by unfold wldNew; rw [if_pos hc]]
 have hE : EndR z end0 ⟨none, 0, [], none, 0, [], none, 0, [], none, 0, [], none, 0, none, 0, none, 0⟩ := ⟨rfl, Nat.le_refl _, rfl, Nat.le_refl _, rfl, Nat.le_refl _, rfl, Nat.le_refl _, Sl.nil _ _ _, Sl.nil _ _ _, Sl.nil _ _ _⟩
 exact ⟨end0, end0, [], [], ⟨B1, Bc1, B2, Bc2, _, _, ⟨_, 0, []⟩, ⟨_, 0, []⟩⟩, rfl, rfl, rfl, rfl, rfl, ⟨hE, hE, ⟨trivial, Nat.le_refl _⟩, ⟨trivial, Nat.le_refl _⟩⟩⟩
def RdA (A : Asrt) (G : Zc → Prop) : Prop := ∀ (z : Zc) (F : Nat → Prop), A.holds z.w F → (∀ b, F b → z.ok b) → G z
theorem RdA.row {e sz n c : Nat} {A : Option Addr} {cs : List Value} : RdA (rowA e sz (.slice A n c) n cs) fun z => RdAt z A 0 cs := fun z F ⟨hrow, hF⟩ hz => by
 obtain ⟨A', c', h1, h2, h3⟩ := hrow.rd
 injection h1 with h1 _ _
 subst h1
 intro hn
 obtain ⟨b, o, e1, hc⟩ := h3 hn
 subst e1
 have hb : F b := (hF b).2 rfl
 exact ⟨b, o, rfl, ⟨hz b hb, hrow.lt b rfl⟩, fun i u hu => by have := hc i u hu; simpa using this⟩
theorem RdA.cons {A : Asrt} {As : List Asrt} {G H : Zc → Prop} (h : RdA A G) (k : RdA (starL As) H) : RdA (starL (A :: As)) fun z => G z ∧ H z := fun z F ⟨F1, F2, h1, h2, hd, hF⟩ hz => ⟨h z F1 h1 fun b hb => hz b ((hF b).2 (.inl hb)), k z F2 h2 fun b hb => hz b ((hF b).2 (.inr hb))⟩
theorem RdA.nil : RdA (starL []) fun _ => True := fun _ _ _ _ => trivial
theorem RdA.bys {l : List Int} {A : Option Addr} {c : Nat} (hc : l.length ≤ c) (hB : Bys l) : RdA (bysA l A c) fun z => By z l (.slice A l.length c) := fun z F h hz => by
 by_cases hl : l = []
 ·rw [hl]; exact Sl.nil _ _ _
 ·unfold bysA at h
  rw [if_neg hl] at h
  exact By.mk hc hB (RdA.row z F h hz)
theorem RdA.net : ∀ {l : List Msg} {ms : List (Option Addr × Nat)}, netO l ms → RdA (starL (netB l ms)) fun z => Els mRep z l (netV l ms)
 | [], [], _ => fun _ _ _ _ => rfl
 | [], _ :: _, h => h.elim
 | _ :: _, [], h => h.elim
 | m :: l, (a, c) :: ms, h => fun z F hh hz => by
  obtain ⟨F1, F2, h1, h2, hd, hF⟩ := hh
  exact ⟨[.bool m.bent, .slice a m.bytes.length c], netV l ms, rfl, ⟨_, rfl, RdA.bys h.1.1 h.1.2 z F1 h1 fun b hb => hz b ((hF b).2 (.inl hb))⟩, RdA.net h.2 z F2 h2 fun b hb => hz b ((hF b).2 (.inr hb))⟩
theorem Sat.frzA {C : Ctx} {ρ : Nm} {s : St} {a : Act} {w : World} {k : Nat} {A : Asrt} {G : Zc → Prop} (h : Sat C ρ s a w) (hk : look k s.L = some (.own A)) (hA : RdA A G) : ∃ z', s.z ≤ z' ∧ G z' ∧ Sat C ρ ⟨s.t, del k s.L, z', s.n⟩ a w := by
 obtain ⟨F, hh, hw⟩ := h.mem
 obtain ⟨F1, F2, hA1, k2, kd, kF⟩ := hh.pick hk
 have hlt : ∀ x, s.z.In x → x < w.heap.size := fun x hx => Nat.lt_of_lt_of_le hx.2 hw.zsize
 have hle : s.z ≤ ⟨fun x => s.z.In x ∨ F1 x, w⟩ := ⟨fun x hx => ⟨⟨.inl hx, hlt x hx⟩, hw.frz x hx⟩⟩
 refine ⟨⟨fun x => s.z.In x ∨ F1 x, w⟩, hle, hA _ F1 hA1 (fun b hb => .inr hb), h.df, h.fr, h.nm, F2, k2, ?_⟩
 refine ⟨hw.os, hw.tape, hw.output, hw.size, Nat.le_refl _, fun _ _ => rfl, ?_, hw.unt, fun x hx => hw.own x ((kF x).2 (.inr hx)), ?_, Zc.trans' hw.zle hle⟩
 ·rintro x hx ⟨h | h, _⟩
  ·exact hw.dis x ((kF x).2 (.inr hx)) h
  ·exact kd x h hx
 ·rintro x ⟨h | h, _⟩
  ·exact hw.zin x h
  ·rcases hw.own x ((kF x).2 (.inl h)) with h | h
   ·exact .inr (.inl h)
   ·exact .inr (.inr h)
theorem vsI.frzA {P : Program} {ic : IC} {K : Exit → St → Prop} {s : St} (k : Nat) {A : Asrt} {G : Zc → Prop} {z0 : Zc} (hk : look k s.L = some (.own A)) (hA : RdA A G) (hz : s.z = z0) (h : ∀ z', z0 ≤ z' → G z' → vsI P ic K ⟨s.t, del k s.L, z', s.n⟩) : vsI P ic K s := by
 subst hz
 exact fun C ρ a w hs => by
  obtain ⟨z', h1, h2, h3⟩ := hs.frzA hk hA
  exact h z' h1 h2 C ρ a w h3
structure EndP (z : Zc) (e : End) (m : EndM) : Prop where
 fl : Sl pRep z e.tx.flight (.slice m.fA e.tx.flight.length m.fC)
 qu : Sl pRep z e.tx.queue (.slice m.qA e.tx.queue.length m.qC)
 pu : Sl sduRep z e.put (.slice m.pA e.put.length m.pC)
 go : Sl sduRep z e.got (.slice m.gA e.got.length m.gC)
 jo : By z e.rx.join.got (.slice m.jA e.rx.join.got.length m.jC)
 cq : Sl pRep z e.ctx.queue (.slice m.cA e.ctx.queue.length m.cC)
 kj : By z e.crx.join.got (.slice m.kA e.crx.join.got.length m.kC)
structure WldP (z : Zc) (e0 e1 : End) (n0 n1 : List Msg) (m : WM) : Prop where
 E : RdAt z m.E 0 (endsC e0 e1 m.m0 m.m1)
 N : RdAt z m.N 0 [.slice m.n0.A n0.length m.n0.C, .slice m.n1.A n1.length m.n1.C]
 e0 : EndP z e0 m.m0
 e1 : EndP z e1 m.m1
 n0 : Sl mRep z n0 (.slice m.n0.A n0.length m.n0.C)
 n1 : Sl mRep z n1 (.slice m.n1.A n1.length m.n1.C)
theorem EndP.mono {z z' : Zc} {e : End} {m : EndM} (hz : z ≤ z') (h : EndP z e m) : EndP z' e m := ⟨Sl.mono hz h.fl, Sl.mono hz h.qu, Sl.mono hz h.pu, Sl.mono hz h.go, Sl.mono hz h.jo, Sl.mono hz h.cq, Sl.mono hz h.kj⟩
theorem WldP.mono {z z' : Zc} {e0 e1 : End} {n0 n1 : List Msg} {m : WM} (hz : z ≤ z') (h : WldP z e0 e1 n0 n1 m) : WldP z' e0 e1 n0 n1 m := ⟨h.E.mono hz, h.N.mono hz, h.e0.mono hz, h.e1.mono hz, Sl.mono hz h.n0, Sl.mono hz h.n1⟩
theorem RdA.wld {z : Zc} {e0 e1 : End} {n0 n1 : List Msg} {m : WM} (hR : WldR z e0 e1 n0 n1 m) : RdA (wldA e0 e1 n0 n1 m) fun z' => z ≤ z' → WldP z' e0 e1 n0 n1 m := fun z' F hh hz hle => by
 obtain ⟨E, N, f0, q0, p0, g0, f1, q1, p1, g1, r0, b0, r1, b1, _⟩ := (RdA.cons RdA.row (.cons RdA.row (.cons RdA.row (.cons RdA.row (.cons RdA.row (.cons RdA.row (.cons RdA.row (.cons RdA.row (.cons RdA.row (.cons RdA.row (.cons RdA.row (.cons (RdA.net hR.n0.ok) (.cons RdA.row (.cons (RdA.net hR.n1.ok) RdA.nil)))))))))))))) z' F hh hz
 have h0 := hR.e0.mono hle
 have h1 := hR.e1.mono hle
 exact ⟨E, N, ⟨⟨_, _, _, rfl, h0.fc, h0.fl, f0⟩, ⟨_, _, _, rfl, h0.qc, h0.qu, q0⟩, ⟨_, _, _, rfl, h0.pc, h0.pu, p0⟩, ⟨_, _, _, rfl, h0.gc, h0.go, g0⟩, h0.jo, h0.cq, h0.kj⟩,
  ⟨⟨_, _, _, rfl, h1.fc, h1.fl, f1⟩, ⟨_, _, _, rfl, h1.qc, h1.qu, q1⟩, ⟨_, _, _, rfl, h1.pc, h1.pu, p1⟩, ⟨_, _, _, rfl, h1.gc, h1.go, g1⟩, h1.jo, h1.cq, h1.kj⟩, ⟨_, _, _, rfl, hR.n0.cap, b0, r0⟩, ⟨_, _, _, rfl, hR.n1.cap, b1, r1⟩⟩
end Go.Proofs.YtllafcmkppmdgaaGreat
