/- One sends, or grants, for credits, by the program's world. · One grants credits, by the program's world. · What does nothing for credits, by the program's world. · One hears a frame, for credits, by the program. · What happens to two ends that use credits, by the program. · What happens to two ends, by the program: a frame is put in. -/
import Derived.Test.YtllafcmkppmdgaaGreatB19
import Derived.Test.YtllafcmkppmdgaaGreatB6
import Derived.Test.YtllafcmkppmdgaaGreatB18
import Derived.Test.YtllafcmkppmdgaaGreatB17
namespace Go.Proofs.YtllafcmkppmdgaaGreat
open Go.RowKit
set_option linter.unusedVariables false
set_option linter.unusedSimpArgs false
set_option maxRecDepth 100000
set_option maxHeartbeats 2000000
theorem forcrd_send {w : Wld} {who : Nat} {e : Evt} (hk : e.kind = 2) : forCrd w who e = if (netAt w (1 - who)).length < 30 then sayO (setEnd w who { endAt w who with ctx := (crdSend (endAt w who).ctx).1 }) who (crdSend (endAt w who).ctx).2 else w := by unfold forCrd; rw [if_neg (by omega), if_pos hk]
theorem crd_send0 (b : Nat) (c : Cfg) (link : Int) (e0 e1 : End) (n0 n1 : List Msg) (m : WM) (ev : Evt) (v : Value) (z : Zc) (hv : By z ev.data v) (hR : WldB z e0 e1 n0 n1 m) (hI : EndI c e0) (h0 : n0.length ≤ 30) (h1 : n1.length ≤ 30) (hw : ev.who = 0) (hk : ev.kind = 2) :
  Spec Tryz.prog 108 [.pointer (some ⟨b, 0, none⟩), vEvt ev v] z (wldP b c link e0 e1 n0 n1 m) fun _ z' A' => WldQ c (forCrd ⟨c, [e0, e1], [n0, n1], link⟩ 0 ev) b z' A' := by
 obtain ⟨kind, who, at_, vv, data⟩ := ev
 dsimp only at *
 subst hw
 subst hk
 have hp8 := hI.ctx.small
 have hq24 := hI.ctx.queue
 obtain ⟨Av, kv, rfl, hkv, hBv, hrv⟩ := hv.form
 have hbn : forCrd ⟨c, [e0, e1], [n0, n1], link⟩ 0 ⟨2, 0, at_, vv, data⟩ = if n1.length < 30 then sayO ⟨c, [e0, e1].set 0 { e0 with ctx := (crdSend e0.ctx).1 }, [n0, n1], link⟩ 0 (crdSend e0.ctx).2 else ⟨c, [e0, e1], [n0, n1], link⟩ := forcrd_send rfl
 rw [hbn]
 clear hbn
 refine eQ kyI k108 ?_
 refine vsI.atR 10 rfl fun hE => ?_
 have hE := hE (by omega)
 refine gO ?_
 ((first | refine ⟨⟨by omega, hE⟩, ?_⟩ | refine ⟨hE, ?_⟩); (try simp only [seval, go_sem]))
 refine gO ?_
 simp only [wr10]
 (refine callT.give 90 0 2001 rfl rfl (fun bb => ?_)); simp only [seval, go_sem, giveSt, subV, subC, subE, subL]
 refine wD ?_
 refine tT ?_; refine callW 91 (room1 bb c link e0 e1 n0 n1 m z (by omega)) rfl rfl rfl rfl ?_; rintro v2 z2 A2 hz2 ⟨rfl, rfl, rfl⟩; (try simp only [seval, go_sem])
 (refine vsI.tf (Tf.open' 91 [92, 10, 11, 22, 23, 32, 33, 40, 41, 50, 51] rfl rfl rfl) ?_); simp only [seval, go_sem, zipL]
 (refine vsI.take' [0] 92 0 2001 rfl rfl rfl ?_); simp only [seval, go_sem, takeSt', unAt, unV, vals]; refine gO ?_
 by_cases h30 : n1.length < 30
 ·rw [if_pos h30]
  simp only [decide_eq_true h30]
  refine gO ?_
  try (with_reducible refine joinV.id ?_; simp only [seval, go_sem])
  have hfr := fun f => @crdSend_frm c e0.ctx f hI.ctx
  have hc := crdsend_i c e0.ctx _ z hR.e0.cq (by omega) (fun p hp => by have := hp8 p hp; omega)
  simp only [crdSendG_ok hI.ctx] at hc
  generalize crdSend e0.ctx = tp at hc hfr ⊢
  obtain ⟨⟨hav, qu, granted, sent, dead⟩, o⟩ := tp
  dsimp only at hc hfr ⊢
  repeat' (first | (refine And.intro ?_ ?_ <;> (try simp only [seval, go_sem])) | (refine ldF.agg (sz := 5) (ctxL e0 m.m0) rfl (RdS.part 10 rfl (fun i u hu => ends_sub (l1 := (endsC e0 e1 m.m0 m.m1).take (28 * 0 + 17)) (l3 := (endsC e0 e1 m.m0 m.m1).drop (28 * 0 + 22)) rfl rfl hu)) ?_; refine gO ?_))
  all_goals refine tT ?_; refine callP (hc) rfl rfl ?_; rintro u z1 hz1 ⟨_, _, _, rfl, ⟨qA, qC, qcs, rfl, hqc, hqe, hqr⟩, _, rfl, ⟨xA, xC, xcs, rfl, hxc, hxe, hxr⟩, rfl⟩; refine gO ?_
  all_goals have hq1 : Sl pRep z1 qu (.slice qA qu.length qC) := ⟨_, _, _, rfl, hqc, hqe, hqr⟩
  all_goals have hR1 : WldB z1 e0 e1 n0 n1 m := hR.mono hz1
  all_goals (refine stoV_row 10 rfl rfl rfl rfl rfl rfl rfl (by rw [endsC_len]; simp) ?_; simp only [seval, go_sem, ends_ctx0]; refine gO ?_)
  all_goals have hR2 : WldB z1 { e0 with ctx := ⟨hav, qu, granted, sent, dead⟩ } e1 n0 n1 { m with m0 := { m.m0 with cA := qA, cC := qC } } := ⟨{ hR1.e0 with cq := hq1 }, hR1.e1, hR.n0, hR.n1⟩
  all_goals (refine callT.give 93 0 2003 rfl rfl (fun b3 => ?_)); simp only [seval, go_sem, giveSt, subV, subC, subE, subL]
  all_goals refine wC ?_
  all_goals refine tT ?_; refine callW 94 (sayif_p0 b3 c link { e0 with ctx := ⟨hav, qu, granted, sent, dead⟩ } e1 n0 n1 { m with m0 := { m.m0 with cA := qA, cC := qC } } o (.slice xA (o.getD frm0).data.length xC) z1 hR2 ⟨xA, xC, xcs, rfl, hxc, hxe, hxr⟩ hfr h0 h1) rfl rfl rfl rfl ?_; rintro v3 z3 A3 hz3 ⟨f0, f1, g0, g1, m3, link3, hw3, rfl, hR3⟩; refine gO ?_
  all_goals refine wO ?_
  all_goals refine wF5 ?_
  all_goals exact ⟨f0, f1, g0, g1, m3, link3, hw3, rfl, hR3⟩
 ·rw [if_neg h30]
  simp only [decide_eq_false h30]
  refine gO ?_
  refine wF3 ?_
  exact WldQ.mk hR
theorem crd_send1 (b : Nat) (c : Cfg) (link : Int) (e0 e1 : End) (n0 n1 : List Msg) (m : WM) (ev : Evt) (v : Value) (z : Zc) (hv : By z ev.data v) (hR : WldB z e0 e1 n0 n1 m) (hI : EndI c e1) (h0 : n0.length ≤ 30) (h1 : n1.length ≤ 30) (hw : ev.who = 1) (hk : ev.kind = 2) :
  Spec Tryz.prog 108 [.pointer (some ⟨b, 0, none⟩), vEvt ev v] z (wldP b c link e0 e1 n0 n1 m) fun _ z' A' => WldQ c (forCrd ⟨c, [e0, e1], [n0, n1], link⟩ 1 ev) b z' A' := by
 obtain ⟨kind, who, at_, vv, data⟩ := ev
 dsimp only at *
 subst hw
 subst hk
 have hp8 := hI.ctx.small
 have hq24 := hI.ctx.queue
 obtain ⟨Av, kv, rfl, hkv, hBv, hrv⟩ := hv.form
 have hbn : forCrd ⟨c, [e0, e1], [n0, n1], link⟩ 1 ⟨2, 1, at_, vv, data⟩ = if n0.length < 30 then sayO ⟨c, [e0, e1].set 1 { e1 with ctx := (crdSend e1.ctx).1 }, [n0, n1], link⟩ 1 (crdSend e1.ctx).2 else ⟨c, [e0, e1], [n0, n1], link⟩ := forcrd_send rfl
 rw [hbn]
 clear hbn
 refine eQ kyI k108 ?_
 refine vsI.atR 10 rfl fun hE => ?_
 have hE := hE (by omega)
 refine gO ?_
 ((first | refine ⟨⟨by omega, hE⟩, ?_⟩ | refine ⟨hE, ?_⟩); (try simp only [seval, go_sem]))
 refine gO ?_
 simp only [wr11]
 (refine callT.give 90 0 2001 rfl rfl (fun bb => ?_)); simp only [seval, go_sem, giveSt, subV, subC, subE, subL]
 refine wD ?_
 refine tT ?_; refine callW 91 (room0 bb c link e0 e1 n0 n1 m z (by omega)) rfl rfl rfl rfl ?_; rintro v2 z2 A2 hz2 ⟨rfl, rfl, rfl⟩; (try simp only [seval, go_sem])
 (refine vsI.tf (Tf.open' 91 [92, 10, 11, 22, 23, 32, 33, 40, 41, 50, 51] rfl rfl rfl) ?_); simp only [seval, go_sem, zipL]
 (refine vsI.take' [0] 92 0 2001 rfl rfl rfl ?_); simp only [seval, go_sem, takeSt', unAt, unV, vals]; refine gO ?_
 by_cases h30 : n0.length < 30
 ·rw [if_pos h30]
  simp only [decide_eq_true h30]
  refine gO ?_
  try (with_reducible refine joinV.id ?_; simp only [seval, go_sem])
  have hfr := fun f => @crdSend_frm c e1.ctx f hI.ctx
  have hc := crdsend_i c e1.ctx _ z hR.e1.cq (by omega) (fun p hp => by have := hp8 p hp; omega)
  simp only [crdSendG_ok hI.ctx] at hc
  generalize crdSend e1.ctx = tp at hc hfr ⊢
  obtain ⟨⟨hav, qu, granted, sent, dead⟩, o⟩ := tp
  dsimp only at hc hfr ⊢
  repeat' (first | (refine And.intro ?_ ?_ <;> (try simp only [seval, go_sem])) | (refine ldF.agg (sz := 5) (ctxL e1 m.m1) rfl (RdS.part 10 rfl (fun i u hu => ends_sub (l1 := (endsC e0 e1 m.m0 m.m1).take (28 * 1 + 17)) (l3 := (endsC e0 e1 m.m0 m.m1).drop (28 * 1 + 22)) rfl rfl hu)) ?_; refine gO ?_))
  all_goals refine tT ?_; refine callP (hc) rfl rfl ?_; rintro u z1 hz1 ⟨_, _, _, rfl, ⟨qA, qC, qcs, rfl, hqc, hqe, hqr⟩, _, rfl, ⟨xA, xC, xcs, rfl, hxc, hxe, hxr⟩, rfl⟩; refine gO ?_
  all_goals have hq1 : Sl pRep z1 qu (.slice qA qu.length qC) := ⟨_, _, _, rfl, hqc, hqe, hqr⟩
  all_goals have hR1 : WldB z1 e0 e1 n0 n1 m := hR.mono hz1
  all_goals (refine stoV_row 10 rfl rfl rfl rfl rfl rfl rfl (by rw [endsC_len]; simp) ?_; simp only [seval, go_sem, ends_ctx1]; refine gO ?_)
  all_goals have hR2 : WldB z1 e0 { e1 with ctx := ⟨hav, qu, granted, sent, dead⟩ } n0 n1 { m with m1 := { m.m1 with cA := qA, cC := qC } } := ⟨hR1.e0, { hR1.e1 with cq := hq1 }, hR.n0, hR.n1⟩
  all_goals (refine callT.give 93 0 2003 rfl rfl (fun b3 => ?_)); simp only [seval, go_sem, giveSt, subV, subC, subE, subL]
  all_goals refine wC ?_
  all_goals refine tT ?_; refine callW 94 (sayif_p1 b3 c link e0 { e1 with ctx := ⟨hav, qu, granted, sent, dead⟩ } n0 n1 { m with m1 := { m.m1 with cA := qA, cC := qC } } o (.slice xA (o.getD frm0).data.length xC) z1 hR2 ⟨xA, xC, xcs, rfl, hxc, hxe, hxr⟩ hfr h0 h1) rfl rfl rfl rfl ?_; rintro v3 z3 A3 hz3 ⟨f0, f1, g0, g1, m3, link3, hw3, rfl, hR3⟩; refine gO ?_
  all_goals refine wO ?_
  all_goals refine wF5 ?_
  all_goals exact ⟨f0, f1, g0, g1, m3, link3, hw3, rfl, hR3⟩
 ·rw [if_neg h30]
  simp only [decide_eq_false h30]
  refine gO ?_
  refine wF3 ?_
  exact WldQ.mk hR
abbrev crxL (e : End) (m : EndM) : List Value := [.int .i64 e.crx.out, .int .i64 e.crx.join.len, .slice m.kA e.crx.join.got.length m.kC, .bool e.crx.dead]
theorem forcrd_grant {w : Wld} {who : Nat} {e : Evt} (hk : e.kind = 6) : forCrd w who e = if (netAt w (1 - who)).length < 30 then sayO (setEnd w who { endAt w who with crx := (crdGrant (endAt w who).crx).1 }) who (crdGrant (endAt w who).crx).2 else w := by unfold forCrd; rw [if_neg (by omega), if_neg (by omega), if_pos hk]
theorem crd_grant0 (b : Nat) (c : Cfg) (link : Int) (e0 e1 : End) (n0 n1 : List Msg) (m : WM) (ev : Evt) (v : Value) (z : Zc) (hv : By z ev.data v) (hR : WldB z e0 e1 n0 n1 m) (hI : EndI c e0) (h0 : n0.length ≤ 30) (h1 : n1.length ≤ 30) (hw : ev.who = 0) (hk : ev.kind = 6) :
  Spec Tryz.prog 108 [.pointer (some ⟨b, 0, none⟩), vEvt ev v] z (wldP b c link e0 e1 n0 n1 m) fun _ z' A' => WldQ c (forCrd ⟨c, [e0, e1], [n0, n1], link⟩ 0 ev) b z' A' := by
 obtain ⟨kind, who, at_, vv, data⟩ := ev
 dsimp only at *
 subst hw
 subst hk
 have hj23 := hI.crx.2.le
 obtain ⟨Av, kv, rfl, hkv, hBv, hrv⟩ := hv.form
 have hbn : forCrd ⟨c, [e0, e1], [n0, n1], link⟩ 0 ⟨6, 0, at_, vv, data⟩ = if n1.length < 30 then sayO ⟨c, [e0, e1].set 0 { e0 with crx := (crdGrant e0.crx).1 }, [n0, n1], link⟩ 0 (crdGrant e0.crx).2 else ⟨c, [e0, e1], [n0, n1], link⟩ := forcrd_grant rfl
 rw [hbn]
 clear hbn
 refine eQ kyI k108 ?_
 refine vsI.atR 10 rfl fun hE => ?_
 have hE := hE (by omega)
 refine gO ?_
 ((first | refine ⟨⟨by omega, hE⟩, ?_⟩ | refine ⟨hE, ?_⟩); (try simp only [seval, go_sem]))
 refine gO ?_
 simp only [wr10]
 (refine callT.give 90 0 2001 rfl rfl (fun bb => ?_)); simp only [seval, go_sem, giveSt, subV, subC, subE, subL]
 refine wD ?_
 refine tT ?_; refine callW 91 (room1 bb c link e0 e1 n0 n1 m z (by omega)) rfl rfl rfl rfl ?_; rintro v2 z2 A2 hz2 ⟨rfl, rfl, rfl⟩; (try simp only [seval, go_sem])
 (refine vsI.tf (Tf.open' 91 [92, 10, 11, 22, 23, 32, 33, 40, 41, 50, 51] rfl rfl rfl) ?_); simp only [seval, go_sem, zipL]
 (refine vsI.take' [0] 92 0 2001 rfl rfl rfl ?_); simp only [seval, go_sem, takeSt', unAt, unV, vals]; refine gO ?_
 by_cases h30 : n1.length < 30
 ·rw [if_pos h30]
  simp only [decide_eq_true h30]
  refine gO ?_
  try (with_reducible refine joinV.id ?_; simp only [seval, go_sem])
  have hfr := fun f => @crdGrant_frm e0.crx f hI.crx
  have hc := crdgrant_i e0.crx _ z hR.e0.kj (by omega) (by have := hI.crx.2; rcases this with h | h <;> omega)
  simp only [crdGrantG_ok hI.crx] at hc
  generalize crdGrant e0.crx = tp at hc hfr ⊢
  obtain ⟨⟨out, ⟨len, got⟩, dead⟩, o⟩ := tp
  dsimp only at hc hfr ⊢
  repeat' (first | (refine And.intro ?_ ?_ <;> (try simp only [seval, go_sem])) | (refine ldF.agg (sz := 4) (crxL e0 m.m0) rfl (RdS.part 10 rfl (fun i u hu => ends_sub (l1 := (endsC e0 e1 m.m0 m.m1).take (28 * 0 + 22)) (l3 := (endsC e0 e1 m.m0 m.m1).drop (28 * 0 + 26)) rfl rfl hu)) ?_; refine gO ?_))
  all_goals refine tT ?_; refine callP (hc) rfl rfl ?_; rintro u z1 hz1 ⟨_, _, _, rfl, ⟨qA, qC, qcs, rfl, hqc, hqe, hqr⟩, _, rfl, ⟨xA, xC, xcs, rfl, hxc, hxe, hxr⟩, rfl⟩; refine gO ?_
  all_goals have hq1 : By z1 got (.slice qA got.length qC) := ⟨_, _, _, rfl, hqc, hqe, hqr⟩
  all_goals have hR1 : WldB z1 e0 e1 n0 n1 m := hR.mono hz1
  all_goals (refine stoV_row 10 rfl rfl rfl rfl rfl rfl rfl (by rw [endsC_len]; simp) ?_; simp only [seval, go_sem, ends_crx0]; refine gO ?_)
  all_goals have hR2 : WldB z1 { e0 with crx := ⟨out, ⟨len, got⟩, dead⟩ } e1 n0 n1 { m with m0 := { m.m0 with kA := qA, kC := qC } } := ⟨{ hR1.e0 with kj := hq1 }, hR1.e1, hR.n0, hR.n1⟩
  all_goals (refine callT.give 93 0 2003 rfl rfl (fun b3 => ?_)); simp only [seval, go_sem, giveSt, subV, subC, subE, subL]
  all_goals refine wC ?_
  all_goals refine tT ?_; refine callW 94 (sayif_p0 b3 c link { e0 with crx := ⟨out, ⟨len, got⟩, dead⟩ } e1 n0 n1 { m with m0 := { m.m0 with kA := qA, kC := qC } } o (.slice xA (o.getD frm0).data.length xC) z1 hR2 ⟨xA, xC, xcs, rfl, hxc, hxe, hxr⟩ hfr h0 h1) rfl rfl rfl rfl ?_; rintro v3 z3 A3 hz3 ⟨f0, f1, g0, g1, m3, link3, hw3, rfl, hR3⟩; refine gO ?_
  all_goals refine wO ?_
  all_goals refine wF5 ?_
  all_goals exact ⟨f0, f1, g0, g1, m3, link3, hw3, rfl, hR3⟩
 ·rw [if_neg h30]
  simp only [decide_eq_false h30]
  refine gO ?_
  refine wF3 ?_
  exact WldQ.mk hR
theorem crd_grant1 (b : Nat) (c : Cfg) (link : Int) (e0 e1 : End) (n0 n1 : List Msg) (m : WM) (ev : Evt) (v : Value) (z : Zc) (hv : By z ev.data v) (hR : WldB z e0 e1 n0 n1 m) (hI : EndI c e1) (h0 : n0.length ≤ 30) (h1 : n1.length ≤ 30) (hw : ev.who = 1) (hk : ev.kind = 6) :
  Spec Tryz.prog 108 [.pointer (some ⟨b, 0, none⟩), vEvt ev v] z (wldP b c link e0 e1 n0 n1 m) fun _ z' A' => WldQ c (forCrd ⟨c, [e0, e1], [n0, n1], link⟩ 1 ev) b z' A' := by
 obtain ⟨kind, who, at_, vv, data⟩ := ev
 dsimp only at *
 subst hw
 subst hk
 have hj23 := hI.crx.2.le
 obtain ⟨Av, kv, rfl, hkv, hBv, hrv⟩ := hv.form
 have hbn : forCrd ⟨c, [e0, e1], [n0, n1], link⟩ 1 ⟨6, 1, at_, vv, data⟩ = if n0.length < 30 then sayO ⟨c, [e0, e1].set 1 { e1 with crx := (crdGrant e1.crx).1 }, [n0, n1], link⟩ 1 (crdGrant e1.crx).2 else ⟨c, [e0, e1], [n0, n1], link⟩ := forcrd_grant rfl
 rw [hbn]
 clear hbn
 refine eQ kyI k108 ?_
 refine vsI.atR 10 rfl fun hE => ?_
 have hE := hE (by omega)
 refine gO ?_
 ((first | refine ⟨⟨by omega, hE⟩, ?_⟩ | refine ⟨hE, ?_⟩); (try simp only [seval, go_sem]))
 refine gO ?_
 simp only [wr11]
 (refine callT.give 90 0 2001 rfl rfl (fun bb => ?_)); simp only [seval, go_sem, giveSt, subV, subC, subE, subL]
 refine wD ?_
 refine tT ?_; refine callW 91 (room0 bb c link e0 e1 n0 n1 m z (by omega)) rfl rfl rfl rfl ?_; rintro v2 z2 A2 hz2 ⟨rfl, rfl, rfl⟩; (try simp only [seval, go_sem])
 (refine vsI.tf (Tf.open' 91 [92, 10, 11, 22, 23, 32, 33, 40, 41, 50, 51] rfl rfl rfl) ?_); simp only [seval, go_sem, zipL]
 (refine vsI.take' [0] 92 0 2001 rfl rfl rfl ?_); simp only [seval, go_sem, takeSt', unAt, unV, vals]; refine gO ?_
 by_cases h30 : n0.length < 30
 ·rw [if_pos h30]
  simp only [decide_eq_true h30]
  refine gO ?_
  try (with_reducible refine joinV.id ?_; simp only [seval, go_sem])
  have hfr := fun f => @crdGrant_frm e1.crx f hI.crx
  have hc := crdgrant_i e1.crx _ z hR.e1.kj (by omega) (by have := hI.crx.2; rcases this with h | h <;> omega)
  simp only [crdGrantG_ok hI.crx] at hc
  generalize crdGrant e1.crx = tp at hc hfr ⊢
  obtain ⟨⟨out, ⟨len, got⟩, dead⟩, o⟩ := tp
  dsimp only at hc hfr ⊢
  repeat' (first | (refine And.intro ?_ ?_ <;> (try simp only [seval, go_sem])) | (refine ldF.agg (sz := 4) (crxL e1 m.m1) rfl (RdS.part 10 rfl (fun i u hu => ends_sub (l1 := (endsC e0 e1 m.m0 m.m1).take (28 * 1 + 22)) (l3 := (endsC e0 e1 m.m0 m.m1).drop (28 * 1 + 26)) rfl rfl hu)) ?_; refine gO ?_))
  all_goals refine tT ?_; refine callP (hc) rfl rfl ?_; rintro u z1 hz1 ⟨_, _, _, rfl, ⟨qA, qC, qcs, rfl, hqc, hqe, hqr⟩, _, rfl, ⟨xA, xC, xcs, rfl, hxc, hxe, hxr⟩, rfl⟩; refine gO ?_
  all_goals have hq1 : By z1 got (.slice qA got.length qC) := ⟨_, _, _, rfl, hqc, hqe, hqr⟩
  all_goals have hR1 : WldB z1 e0 e1 n0 n1 m := hR.mono hz1
  all_goals (refine stoV_row 10 rfl rfl rfl rfl rfl rfl rfl (by rw [endsC_len]; simp) ?_; simp only [seval, go_sem, ends_crx1]; refine gO ?_)
  all_goals have hR2 : WldB z1 e0 { e1 with crx := ⟨out, ⟨len, got⟩, dead⟩ } n0 n1 { m with m1 := { m.m1 with kA := qA, kC := qC } } := ⟨hR1.e0, { hR1.e1 with kj := hq1 }, hR.n0, hR.n1⟩
  all_goals (refine callT.give 93 0 2003 rfl rfl (fun b3 => ?_)); simp only [seval, go_sem, giveSt, subV, subC, subE, subL]
  all_goals refine wC ?_
  all_goals refine tT ?_; refine callW 94 (sayif_p1 b3 c link e0 { e1 with crx := ⟨out, ⟨len, got⟩, dead⟩ } n0 n1 { m with m1 := { m.m1 with kA := qA, kC := qC } } o (.slice xA (o.getD frm0).data.length xC) z1 hR2 ⟨xA, xC, xcs, rfl, hxc, hxe, hxr⟩ hfr h0 h1) rfl rfl rfl rfl ?_; rintro v3 z3 A3 hz3 ⟨f0, f1, g0, g1, m3, link3, hw3, rfl, hR3⟩; refine gO ?_
  all_goals refine wO ?_
  all_goals refine wF5 ?_
  all_goals exact ⟨f0, f1, g0, g1, m3, link3, hw3, rfl, hR3⟩
 ·rw [if_neg h30]
  simp only [decide_eq_false h30]
  refine gO ?_
  refine wF3 ?_
  exact WldQ.mk hR
theorem forcrd_none {w : Wld} {who : Nat} {e : Evt} (hk : e.kind = 3 ∨ e.kind = 4 ∨ e.kind = 5) : forCrd w who e = w := by unfold forCrd; rw [if_neg (by omega), if_neg (by omega), if_neg (by omega)]
theorem crd_none0 (b : Nat) (c : Cfg) (link : Int) (e0 e1 : End) (n0 n1 : List Msg) (m : WM) (ev : Evt) (v : Value) (z : Zc) (hv : By z ev.data v) (hR : WldB z e0 e1 n0 n1 m) (hw : ev.who = 0) (hk : ev.kind = 3 ∨ ev.kind = 4 ∨ ev.kind = 5) :
  Spec Tryz.prog 108 [.pointer (some ⟨b, 0, none⟩), vEvt ev v] z (wldP b c link e0 e1 n0 n1 m) fun _ z' A' => WldQ c (forCrd ⟨c, [e0, e1], [n0, n1], link⟩ 0 ev) b z' A' := by
 rw [forcrd_none hk]
 obtain ⟨kind, who, at_, vv, data⟩ := ev
 dsimp only at *
 subst hw
 obtain ⟨Av, kv, rfl, hkv, hBv, hrv⟩ := hv.form
 refine eQ kyI k108 ?_
 refine vsI.atR 10 rfl fun hE => ?_
 have hE := hE (by omega)
 rcases hk with rfl | rfl | rfl
 ·refine gO ?_
  ((first | refine ⟨⟨by omega, hE⟩, ?_⟩ | refine ⟨hE, ?_⟩); (try simp only [seval, go_sem]))
  refine gO ?_
  refine wF3 ?_
  exact WldQ.mk hR
 ·refine gO ?_
  ((first | refine ⟨⟨by omega, hE⟩, ?_⟩ | refine ⟨hE, ?_⟩); (try simp only [seval, go_sem]))
  refine gO ?_
  refine wF3 ?_
  exact WldQ.mk hR
 ·refine gO ?_
  ((first | refine ⟨⟨by omega, hE⟩, ?_⟩ | refine ⟨hE, ?_⟩); (try simp only [seval, go_sem]))
  refine gO ?_
  refine wF3 ?_
  exact WldQ.mk hR
theorem crd_none1 (b : Nat) (c : Cfg) (link : Int) (e0 e1 : End) (n0 n1 : List Msg) (m : WM) (ev : Evt) (v : Value) (z : Zc) (hv : By z ev.data v) (hR : WldB z e0 e1 n0 n1 m) (hw : ev.who = 1) (hk : ev.kind = 3 ∨ ev.kind = 4 ∨ ev.kind = 5) :
  Spec Tryz.prog 108 [.pointer (some ⟨b, 0, none⟩), vEvt ev v] z (wldP b c link e0 e1 n0 n1 m) fun _ z' A' => WldQ c (forCrd ⟨c, [e0, e1], [n0, n1], link⟩ 1 ev) b z' A' := by
 rw [forcrd_none hk]
 obtain ⟨kind, who, at_, vv, data⟩ := ev
 dsimp only at *
 subst hw
 obtain ⟨Av, kv, rfl, hkv, hBv, hrv⟩ := hv.form
 refine eQ kyI k108 ?_
 refine vsI.atR 10 rfl fun hE => ?_
 have hE := hE (by omega)
 rcases hk with rfl | rfl | rfl
 ·refine gO ?_
  ((first | refine ⟨⟨by omega, hE⟩, ?_⟩ | refine ⟨hE, ?_⟩); (try simp only [seval, go_sem]))
  refine gO ?_
  refine wF3 ?_
  exact WldQ.mk hR
 ·refine gO ?_
  ((first | refine ⟨⟨by omega, hE⟩, ?_⟩ | refine ⟨hE, ?_⟩); (try simp only [seval, go_sem]))
  refine gO ?_
  refine wF3 ?_
  exact WldQ.mk hR
 ·refine gO ?_
  ((first | refine ⟨⟨by omega, hE⟩, ?_⟩ | refine ⟨hE, ?_⟩); (try simp only [seval, go_sem]))
  refine gO ?_
  refine wF3 ?_
  exact WldQ.mk hR
set_option maxHeartbeats 4000000
theorem hear_c3_0 (b : Nat) (c : Cfg) (link : Int) (e0 e1 : End) (n0 n1 : List Msg) (msg : Msg) (rest : List Msg) (f : Frm) (m : WM) (z : Zc) (hR : WldB z e0 e1 n0 n1 m) (hI : EndI c e0) (hm : c.mode = 2) (h0 : n0.length ≤ 30) (h1 : n1.length ≤ 30) (h15 : msg.bytes.length ≤ 15) (hn : n0 = msg :: rest) (hf : frmRead msg.bytes = some f) (hok : frmOk f = true) (hkk : f.kind = 3) (hE : IsAt m.E) (hN : IsAt m.N) (hA : IsAt m.n0.A) :
  Spec Tryz.prog 105 [.pointer (some ⟨b, 0, none⟩), .int .i64 0] z (wldP b c link e0 e1 n0 n1 m) fun _ z' A' => WldQ c ⟨c, [e0, e1].set 0 (hearC c e0 f), [n0, n1].set 0 rest, link⟩ b z' A' := by
 subst hn
 obtain ⟨E, EC, N, NC, m0, m1, ⟨A0, C0, ms0⟩, ⟨A1, C1, ms1⟩⟩ := m
 obtain ⟨hR0, hR1, hRn0, hRn1⟩ := hR
 have hno := hRn0.ok
 have hcap := hRn0.cap
 dsimp only at hno hcap hR0 hR1 hRn0 hRn1 hE hN hA
 cases ms0 with
 | nil => exact hno.elim
 | cons x ms =>
 obtain ⟨a, cb⟩ := x
 obtain ⟨⟨hb1, hb2⟩, hno⟩ := hno
 have hvl := netV_len hno
 have hlr : (msg :: rest).length = rest.length + 1 := rfl
 have hnv : List.take (rest.length * 2) (List.drop 2 (netV (msg :: rest) ((a, cb) :: ms))) = netV rest ms := List.take_of_length_le (by show (netV rest ms).length ≤ _; omega)
 have hcap1 : rest.length ≤ C0 - 1 := by rw [hlr] at hcap; omega
 obtain ⟨kind, seq, ack, poll, fin, say, seg, len, data⟩ := f
 dsimp only at hkk
 subst hkk
 obtain ⟨mode, win, mps, mtu, tri⟩ := c
 dsimp only at hm
 subst hm
 refine eQ kyI k105 ?_
 ((first | refine ⟨⟨by omega, hN⟩, ?_⟩ | refine ⟨hN, ?_⟩); (try simp only [seval, go_sem]))
 (refine ldF.one _ (RdS.cell 11 rfl rfl) ?_; refine gO ?_)
 refine ⟨⟨by simp, hA⟩, ?_⟩
 refine gO ?_
 (refine ldF.one _ (RdS.cell 40 rfl rfl) ?_; refine gO ?_)
 refine callT.tf (Tf.split 41 46 rfl rfl rfl) ?_
 dsimp only
 refine callT.frzA 46 rfl (RdA.bys hb1 hb2) (fun z4 hz4 hby => ?_)
 dsimp only at hz4
 simp only [seval, go_sem]
 have hc := frmRead_i msg.bytes _ z4 hby (by omega)
 simp only [hf] at hc
 refine tT ?_; refine callP (hc) rfl rfl ?_; rintro u z5 hz5 ⟨x, rfl, hx⟩; (try simp only [seval, go_sem])
 obtain ⟨Ax, kx, rfl, hkx, hBx, hrx⟩ := hx.form
 try dsimp only at hx
 refine gO ?_
 ((first | refine ⟨⟨by omega, hN⟩, ?_⟩ | refine ⟨hN, ?_⟩); (try simp only [seval, go_sem]))
 (refine ldF.one _ (RdS.cell 11 rfl rfl) ?_; refine gO ?_)
 refine ⟨by omega, ?_⟩; refine gO ?_
 ((first | refine ⟨⟨by omega, hN⟩, ?_⟩ | refine ⟨hN, ?_⟩); (try simp only [seval, go_sem]))
 (refine stoV_row 11 rfl rfl rfl rfl rfl rfl rfl (by simp) ?_; simp only [seval, go_sem, putV]; refine gO ?_)
 ((first | refine ⟨⟨by omega, hE⟩, ?_⟩ | refine ⟨hE, ?_⟩); (try simp only [seval, go_sem]))
 refine gO ?_
 have hz05 := Zc.trans' hz4 hz5
 have hj23 := hI.crx.2.le
 have hjl : -1000000000 ≤ e0.crx.join.len := by have := hI.crx.2; rcases this with h | h <;> omega
 have hfb := (frmOk_bound hok)
 dsimp only at hfb
 refine ldF.agg (sz := 4) (crxL e0 m0) rfl (RdS.part 10 rfl (fun i u hu => ends_sub (l1 := (endsC e0 e1 m0 m1).take 22) (l3 := (endsC e0 e1 m0 m1).drop 26) rfl rfl hu)) ?_
 refine gO ?_
 have hc1 := crdhear_i ⟨2, win, mps, mtu, tri⟩ e0.crx ⟨3, seq, ack, poll, fin, say, seg, len, data⟩ _ (.slice Ax data.length kx) z5 (Sl.mono hz05 hR0.kj) hx (by omega) hjl (by show data.length ≤ _; omega)
 simp only [crdHearG_ok (c := ⟨2, win, mps, mtu, tri⟩) (r := e0.crx) (f := ⟨3, seq, ack, poll, fin, say, seg, len, data⟩) ⟨cfgOk_iff.2 hI.ctx.cfg, crxOk_iff.2 hI.crx, rfl, hok⟩] at hc1
 have hsl := (crdHear_ok (c := ⟨2, win, mps, mtu, tri⟩) (f := ⟨3, seq, ack, poll, fin, say, seg, len, data⟩) hI.crx (frm3 hok rfl)).2.2
 rw [show hearC ⟨2, win, mps, mtu, tri⟩ e0 ⟨3, seq, ack, poll, fin, say, seg, len, data⟩ = { e0 with crx := (crdHear ⟨2, win, mps, mtu, tri⟩ e0.crx ⟨3, seq, ack, poll, fin, say, seg, len, data⟩).1, got := tell e0.got (crdHear ⟨2, win, mps, mtu, tri⟩ e0.crx ⟨3, seq, ack, poll, fin, say, seg, len, data⟩).2 } by unfold hearC; rw [if_neg (show ¬ (3 : Int) = 4 by decide), if_pos rfl]]
 generalize crdHear ⟨2, win, mps, mtu, tri⟩ e0.crx ⟨3, seq, ack, poll, fin, say, seg, len, data⟩ = tq at hc1 hsl ⊢
 obtain ⟨⟨out, ⟨rlen, rgot⟩, dead⟩, sdus⟩ := tq
 dsimp only at hc1 hsl ⊢
 refine tT ?_; refine callP (hc1) rfl rfl ?_; rintro u z7 hz7 ⟨_, _, rfl, ⟨kA, kC, ks, rfl, hk5, he5, hr5⟩, ⟨B6, k6, cs6, rfl, hk6, he6, hr6⟩⟩; refine gO ?_; (try simp only [seval, go_sem])
 try dsimp only at hk5 he5 hk6 he6
 have h5 : By z7 rgot (.slice kA rgot.length kC) := ⟨_, _, _, rfl, hk5, he5, hr5⟩
 refine gO ?_
 (refine stoV_row 10 rfl rfl rfl rfl rfl rfl rfl (by rw [endsC_len]; simp) ?_; simp only [seval, go_sem, ends_crx0]; refine gO ?_)
 have hzz := Zc.trans' hz05 hz7
 refine loopV.tf (Tf.cut 40 rfl rfl 1 (rest.length + 1) C0 (by omega) (by simp) hcap (by omega) (.inr (.inr hA))) ?_
 simp only [Nat.one_mul, Nat.add_sub_cancel, hnv]
 refine loop_upd (ι := TelS) (n := 2) (fun s => z7 ≤ s.z ∧ s.i ≤ sdus.length ∧ s.g = tell e0.got (sdus.take s.i) ∧ Els sduRep s.z s.g s.V ∧ s.g.length ≤ s.C ∧ s.g.length ≤ 60) (fun s => [(144, .c (.v (.int .i64 s.i)))])
  (fun s => wldK b ⟨2, win, mps, mtu, tri⟩ link { e0 with crx := ⟨out, ⟨rlen, rgot⟩, dead⟩, got := s.g } e1 rest n1 ⟨E, EC, N, NC, { m0 with kA := kA, kC := kC, gA := s.A, gC := s.C, gV := s.V }, m1, ⟨cutA A0 C0 1 2, C0 - 1, ms⟩, ⟨A1, C1, ms1⟩⟩ ++ [(1, .cells 65 [.v (.int .i64 3), .v (.int .i64 seq), .v (.int .i64 ack), .v (.bool poll), .v (.bool fin), .v (.int .i64 say), .v (.int .i64 seg), .v (.int .i64 len), .v (.slice Ax data.length kx)])]) (fun s => s.z) (fun s => sdus.length - s.i) ⟨0, e0.got, m0.gA, m0.gC, m0.gV, z7⟩ ⟨Zc.rfl' _, by simp, by simp [tell], hR0.go.mono hzz, hR0.gc, hI.got.1⟩ (by (simp only [wrI, wrR, anyL, st, List.append_nil, List.nil_append, List.cons_append]); exact rfl) ?_ ?_
 ·simp only [wldK, wldE, List.cons_append, List.nil_append]
  exact lX
 ·rintro ⟨i, g, gA, gC, gV, z8⟩ ⟨hz8, hi, hgl, hge, hgc, hg60⟩
  dsimp only at *
  simp only [wldK, wldE, List.cons_append, List.nil_append]
  refine gO ?_
  (with_reducible refine condI.split (fun hg => ?_) (fun hg => ?_) <;> (try simp only [hg]) <;> (try simp only [seval, go_sem]))
  ·have hi' : i < sdus.length := by simp at hg; omega
   obtain ⟨x, hx'⟩ : ∃ x, sdus[i]? = some x := ⟨_, List.getElem?_eq_getElem hi'⟩
   obtain ⟨c1, ⟨v, rfl, hb⟩, hr1⟩ := (he6.mono hz8).at (hr6.mono hz8) hx'
   obtain ⟨Ay, cy, rfl, hcy, hBy, hry⟩ := By.form hb
   have hat := he6.isAt hr6 (by decide) hi'
   refine gO ?_
   (refine ⟨⟨by omega, by omega, hat⟩, ?_⟩; (try simp only [seval, go_sem]))
   (refine ldF.one _ (by first | exact .inl hr1 | exact hr1) ?_; (try simp only [seval, go_sem]))
   refine gO ?_
   (refine ldF.one _ (RdS.cell 10 rfl rfl) ?_; refine gO ?_)
   (with_reducible refine condI.split (fun hg => ?_) (fun hg => ?_) <;> (try simp only [hg]) <;> (try simp only [seval, go_sem]))
   ·refine gO ?_
    (refine ldF.one _ (RdS.cell 10 rfl rfl) ?_; refine gO ?_)
    refine aT ?_; (refine appM_newF 23 atyS rfl rfl rfl rfl rfl rfl rfl (by simp [Value.oneCell']) (by omega) (fun A6 c6 hc6 hat6 => ?_)); refine gO ?_
    (refine stoV_row 10 rfl rfl rfl rfl rfl rfl rfl (by rw [endsC_len]; simp) ?_; refine gO ?_)
    rw [ends_gotV0 _ _ _ _ (g ++ [x]) _ _ _ (gV ++ [.slice Ay x.length cy]) (by simp), show g.length + 1 = (g ++ [x]).length by simp]
    refine ⟨⟨i + 1, g ++ [x], A6, c6, gV ++ [.slice Ay x.length cy], z8⟩, ⟨hz8, by dsimp only; omega, ?_, hge.append (Els.single (d := sduRep) ⟨_, rfl, By.mk hcy hBy hry⟩), by simp; exact hc6, by have := of_decide_eq_true hg; simp; omega⟩, by dsimp only; omega, ?_⟩
    ·dsimp only; rw [tell_take hx', ← hgl, if_pos (by have := of_decide_eq_true hg; omega)]
    ·exact lX
   ·refine gO ?_
    refine ⟨⟨i + 1, g, gA, gC, gV, z8⟩, ⟨hz8, by dsimp only; omega, by dsimp only; rw [tell_take hx', ← hgl, if_neg (by have := of_decide_eq_false hg; omega)], hge, hgc, hg60⟩, by dsimp only; omega, ?_⟩
    exact lX
  ·have hil : i = sdus.length := by simp at hg; omega
   subst hil
   rw [List.take_length] at hgl
   subst hgl
   refine gO ?_
   have hR8 : WldB z8 { e0 with crx := ⟨out, ⟨rlen, rgot⟩, dead⟩, got := (tell e0.got sdus) } e1 rest n1 ⟨E, EC, N, NC, { m0 with kA := kA, kC := kC, gA := gA, gC := gC, gV := gV }, m1, ⟨cutA A0 C0 1 2, C0 - 1, ms⟩, ⟨A1, C1, ms1⟩⟩ := ⟨{ (hR0.mono (Zc.trans' hzz hz8)) with kj := Sl.mono hz8 h5, go := hge, gc := hgc }, hR1.mono (Zc.trans' hzz hz8), ⟨hno, hcap1⟩, hRn1⟩
   (refine callT.give 93 0 2003 rfl rfl (fun b3 => ?_)); simp only [seval, go_sem, giveSt, subV, subC, subE, subL]
   refine wC ?_
   refine tT ?_; refine callW 94 (say_p0 b3 ⟨2, win, mps, mtu, tri⟩ link { e0 with crx := ⟨out, ⟨rlen, rgot⟩, dead⟩, got := (tell e0.got sdus) } e1 rest n1 ⟨E, EC, N, NC, { m0 with kA := kA, kC := kC, gA := gA, gC := gC, gV := gV }, m1, ⟨cutA A0 C0 1 2, C0 - 1, ms⟩, ⟨A1, C1, ms1⟩⟩ [] (.slice none 0 0) z8 hR8 (Sl.nil _ _ _) (by simp) (by simp) (by simp at h0; omega) (by skip; omega)) rfl rfl rfl rfl ?_; rintro v3 z3 A3 hz3 ⟨f0, f1, g0, g1, m3, link3, hw3, rfl, hR9⟩; refine gO ?_
   refine wO ?_
   refine wF5 ?_
   exact ⟨f0, f1, g0, g1, m3, link3, hw3, rfl, hR9⟩
theorem hear_c4_0 (b : Nat) (c : Cfg) (link : Int) (e0 e1 : End) (n0 n1 : List Msg) (msg : Msg) (rest : List Msg) (f : Frm) (m : WM) (z : Zc) (hR : WldB z e0 e1 n0 n1 m) (hI : EndI c e0) (hm : c.mode = 2) (h0 : n0.length ≤ 30) (h1 : n1.length ≤ 30) (h15 : msg.bytes.length ≤ 15) (hn : n0 = msg :: rest) (hf : frmRead msg.bytes = some f) (hok : frmOk f = true) (hkk : f.kind = 4) (hE : IsAt m.E) (hN : IsAt m.N) (hA : IsAt m.n0.A) :
  Spec Tryz.prog 105 [.pointer (some ⟨b, 0, none⟩), .int .i64 0] z (wldP b c link e0 e1 n0 n1 m) fun _ z' A' => WldQ c ⟨c, [e0, e1].set 0 (hearC c e0 f), [n0, n1].set 0 rest, link⟩ b z' A' := by
 subst hn
 obtain ⟨E, EC, N, NC, m0, m1, ⟨A0, C0, ms0⟩, ⟨A1, C1, ms1⟩⟩ := m
 obtain ⟨hR0, hR1, hRn0, hRn1⟩ := hR
 have hno := hRn0.ok
 have hcap := hRn0.cap
 dsimp only at hno hcap hR0 hR1 hRn0 hRn1 hE hN hA
 cases ms0 with
 | nil => exact hno.elim
 | cons x ms =>
 obtain ⟨a, cb⟩ := x
 obtain ⟨⟨hb1, hb2⟩, hno⟩ := hno
 have hvl := netV_len hno
 have hlr : (msg :: rest).length = rest.length + 1 := rfl
 have hnv : List.take (rest.length * 2) (List.drop 2 (netV (msg :: rest) ((a, cb) :: ms))) = netV rest ms := List.take_of_length_le (by show (netV rest ms).length ≤ _; omega)
 have hcap1 : rest.length ≤ C0 - 1 := by rw [hlr] at hcap; omega
 obtain ⟨kind, seq, ack, poll, fin, say, seg, len, data⟩ := f
 dsimp only at hkk
 subst hkk
 obtain ⟨mode, win, mps, mtu, tri⟩ := c
 dsimp only at hm
 subst hm
 refine eQ kyI k105 ?_
 ((first | refine ⟨⟨by omega, hN⟩, ?_⟩ | refine ⟨hN, ?_⟩); (try simp only [seval, go_sem]))
 (refine ldF.one _ (RdS.cell 11 rfl rfl) ?_; refine gO ?_)
 refine ⟨⟨by simp, hA⟩, ?_⟩
 refine gO ?_
 (refine ldF.one _ (RdS.cell 40 rfl rfl) ?_; refine gO ?_)
 refine callT.tf (Tf.split 41 46 rfl rfl rfl) ?_
 dsimp only
 refine callT.frzA 46 rfl (RdA.bys hb1 hb2) (fun z4 hz4 hby => ?_)
 dsimp only at hz4
 simp only [seval, go_sem]
 have hc := frmRead_i msg.bytes _ z4 hby (by omega)
 simp only [hf] at hc
 refine tT ?_; refine callP (hc) rfl rfl ?_; rintro u z5 hz5 ⟨x, rfl, hx⟩; (try simp only [seval, go_sem])
 obtain ⟨Ax, kx, rfl, hkx, hBx, hrx⟩ := hx.form
 try dsimp only at hx
 refine gO ?_
 ((first | refine ⟨⟨by omega, hN⟩, ?_⟩ | refine ⟨hN, ?_⟩); (try simp only [seval, go_sem]))
 (refine ldF.one _ (RdS.cell 11 rfl rfl) ?_; refine gO ?_)
 refine ⟨by omega, ?_⟩; refine gO ?_
 ((first | refine ⟨⟨by omega, hN⟩, ?_⟩ | refine ⟨hN, ?_⟩); (try simp only [seval, go_sem]))
 (refine stoV_row 11 rfl rfl rfl rfl rfl rfl rfl (by simp) ?_; simp only [seval, go_sem, putV]; refine gO ?_)
 ((first | refine ⟨⟨by omega, hE⟩, ?_⟩ | refine ⟨hE, ?_⟩); (try simp only [seval, go_sem]))
 refine gO ?_
 have hz05 := Zc.trans' hz4 hz5
 have hp8 := hI.ctx.small
 have hq24 := hI.ctx.queue
 refine ldF.agg (sz := 5) (ctxL e0 m0) rfl (RdS.part 10 rfl (fun i u hu => ends_sub (l1 := (endsC e0 e1 m0 m1).take 17) (l3 := (endsC e0 e1 m0 m1).drop 22) rfl rfl hu)) ?_
 refine gO ?_
 have hc1 := crdtake_i ⟨2, win, mps, mtu, tri⟩ e0.ctx len _ z5 (hR0.cq.mono hz05) (by omega) (fun p hp => by have := hp8 p hp; omega)
 simp only [crdTakeG_ok hI.ctx (frm4 hok rfl)] at hc1
 rw [show hearC ⟨2, win, mps, mtu, tri⟩ e0 ⟨4, seq, ack, poll, fin, say, seg, len, data⟩ = { e0 with ctx := crdTake e0.ctx len } by unfold hearC; rw [if_pos rfl]]
 generalize crdTake e0.ctx len = tp at hc1 ⊢
 obtain ⟨hav, qu, granted, sent, dead⟩ := tp
 dsimp only at hc1 ⊢
 refine tT ?_; refine callP (hc1) rfl rfl ?_; rintro u z6 hz6 ⟨_, rfl, cA, cC, ccs, rfl, hkc, hec, hrc⟩; refine gO ?_
 try dsimp only at hkc hec
 have hcq : Sl pRep z6 qu (.slice cA qu.length cC) := ⟨_, _, _, rfl, hkc, hec, hrc⟩
 have hzz := Zc.trans' hz05 hz6
 (refine stoV_row 10 rfl rfl rfl rfl rfl rfl rfl (by rw [endsC_len]; simp) ?_; simp only [seval, go_sem, ends_ctx0]; refine gO ?_)
 refine loopV.tf (Tf.cut 40 rfl rfl 1 (rest.length + 1) C0 (by omega) (by simp) hcap (by omega) (.inr (.inr hA))) ?_
 simp only [Nat.one_mul, Nat.add_sub_cancel, hnv]
 refine loopV.rounds 1 ?_
 rw [roundsV_succ]
 refine gO ?_
 try simp only [seval, go_sem, show decide ((0 : Int) < ((0 : Nat) : Int)) = false from rfl]
 refine gO ?_
 simp only [seval, go_sem, roundK_exit]
 refine gO ?_
 have hR8 : WldB z6 { e0 with ctx := ⟨hav, qu, granted, sent, dead⟩ } e1 rest n1 ⟨E, EC, N, NC, { m0 with cA := cA, cC := cC }, m1, ⟨cutA A0 C0 1 2, C0 - 1, ms⟩, ⟨A1, C1, ms1⟩⟩ := ⟨{ (hR0.mono hzz) with cq := hcq }, hR1.mono hzz, ⟨hno, hcap1⟩, hRn1⟩
 (refine callT.give 93 0 2003 rfl rfl (fun b3 => ?_)); simp only [seval, go_sem, giveSt, subV, subC, subE, subL]
 refine wC ?_
 refine tT ?_; refine callW 94 (say_p0 b3 ⟨2, win, mps, mtu, tri⟩ link { e0 with ctx := ⟨hav, qu, granted, sent, dead⟩ } e1 rest n1 ⟨E, EC, N, NC, { m0 with cA := cA, cC := cC }, m1, ⟨cutA A0 C0 1 2, C0 - 1, ms⟩, ⟨A1, C1, ms1⟩⟩ [] (.slice none 0 0) z6 hR8 (Sl.nil _ _ _) (by simp) (by simp) (by simp at h0; omega) (by skip; omega)) rfl rfl rfl rfl ?_; rintro v3 z3 A3 hz3 ⟨f0, f1, g0, g1, m3, link3, hw3, rfl, hR9⟩; refine gO ?_
 refine wO ?_
 refine wF5 ?_
 exact ⟨f0, f1, g0, g1, m3, link3, hw3, rfl, hR9⟩
theorem hear_c3_1 (b : Nat) (c : Cfg) (link : Int) (e0 e1 : End) (n0 n1 : List Msg) (msg : Msg) (rest : List Msg) (f : Frm) (m : WM) (z : Zc) (hR : WldB z e0 e1 n0 n1 m) (hI : EndI c e1) (hm : c.mode = 2) (h0 : n0.length ≤ 30) (h1 : n1.length ≤ 30) (h15 : msg.bytes.length ≤ 15) (hn : n1 = msg :: rest) (hf : frmRead msg.bytes = some f) (hok : frmOk f = true) (hkk : f.kind = 3) (hE : IsAt m.E) (hN : IsAt m.N) (hA : IsAt m.n1.A) :
  Spec Tryz.prog 105 [.pointer (some ⟨b, 0, none⟩), .int .i64 1] z (wldP b c link e0 e1 n0 n1 m) fun _ z' A' => WldQ c ⟨c, [e0, e1].set 1 (hearC c e1 f), [n0, n1].set 1 rest, link⟩ b z' A' := by
 subst hn
 obtain ⟨E, EC, N, NC, m0, m1, ⟨A0, C0, ms0⟩, ⟨A1, C1, ms1⟩⟩ := m
 obtain ⟨hR0, hR1, hRn0, hRn1⟩ := hR
 have hno := hRn1.ok
 have hcap := hRn1.cap
 dsimp only at hno hcap hR0 hR1 hRn0 hRn1 hE hN hA
 cases ms1 with
 | nil => exact hno.elim
 | cons x ms =>
 obtain ⟨a, cb⟩ := x
 obtain ⟨⟨hb1, hb2⟩, hno⟩ := hno
 have hvl := netV_len hno
 have hlr : (msg :: rest).length = rest.length + 1 := rfl
 have hnv : List.take (rest.length * 2) (List.drop 2 (netV (msg :: rest) ((a, cb) :: ms))) = netV rest ms := List.take_of_length_le (by show (netV rest ms).length ≤ _; omega)
 have hcap1 : rest.length ≤ C1 - 1 := by rw [hlr] at hcap; omega
 obtain ⟨kind, seq, ack, poll, fin, say, seg, len, data⟩ := f
 dsimp only at hkk
 subst hkk
 obtain ⟨mode, win, mps, mtu, tri⟩ := c
 dsimp only at hm
 subst hm
 refine eQ kyI k105 ?_
 ((first | refine ⟨⟨by omega, hN⟩, ?_⟩ | refine ⟨hN, ?_⟩); (try simp only [seval, go_sem]))
 (refine ldF.one _ (RdS.cell 11 rfl rfl) ?_; refine gO ?_)
 refine ⟨⟨by simp, hA⟩, ?_⟩
 refine gO ?_
 (refine ldF.one _ (RdS.cell 50 rfl rfl) ?_; refine gO ?_)
 refine callT.tf (Tf.split 51 46 rfl rfl rfl) ?_
 dsimp only
 refine callT.frzA 46 rfl (RdA.bys hb1 hb2) (fun z4 hz4 hby => ?_)
 dsimp only at hz4
 simp only [seval, go_sem]
 have hc := frmRead_i msg.bytes _ z4 hby (by omega)
 simp only [hf] at hc
 refine tT ?_; refine callP (hc) rfl rfl ?_; rintro u z5 hz5 ⟨x, rfl, hx⟩; (try simp only [seval, go_sem])
 obtain ⟨Ax, kx, rfl, hkx, hBx, hrx⟩ := hx.form
 try dsimp only at hx
 refine gO ?_
 ((first | refine ⟨⟨by omega, hN⟩, ?_⟩ | refine ⟨hN, ?_⟩); (try simp only [seval, go_sem]))
 (refine ldF.one _ (RdS.cell 11 rfl rfl) ?_; refine gO ?_)
 refine ⟨by omega, ?_⟩; refine gO ?_
 ((first | refine ⟨⟨by omega, hN⟩, ?_⟩ | refine ⟨hN, ?_⟩); (try simp only [seval, go_sem]))
 (refine stoV_row 11 rfl rfl rfl rfl rfl rfl rfl (by simp) ?_; simp only [seval, go_sem, putV]; refine gO ?_)
 ((first | refine ⟨⟨by omega, hE⟩, ?_⟩ | refine ⟨hE, ?_⟩); (try simp only [seval, go_sem]))
 refine gO ?_
 have hz05 := Zc.trans' hz4 hz5
 have hj23 := hI.crx.2.le
 have hjl : -1000000000 ≤ e1.crx.join.len := by have := hI.crx.2; rcases this with h | h <;> omega
 have hfb := (frmOk_bound hok)
 dsimp only at hfb
 refine ldF.agg (sz := 4) (crxL e1 m1) rfl (RdS.part 10 rfl (fun i u hu => ends_sub (l1 := (endsC e0 e1 m0 m1).take 50) (l3 := (endsC e0 e1 m0 m1).drop 54) rfl rfl hu)) ?_
 refine gO ?_
 have hc1 := crdhear_i ⟨2, win, mps, mtu, tri⟩ e1.crx ⟨3, seq, ack, poll, fin, say, seg, len, data⟩ _ (.slice Ax data.length kx) z5 (Sl.mono hz05 hR1.kj) hx (by omega) hjl (by show data.length ≤ _; omega)
 simp only [crdHearG_ok (c := ⟨2, win, mps, mtu, tri⟩) (r := e1.crx) (f := ⟨3, seq, ack, poll, fin, say, seg, len, data⟩) ⟨cfgOk_iff.2 hI.ctx.cfg, crxOk_iff.2 hI.crx, rfl, hok⟩] at hc1
 have hsl := (crdHear_ok (c := ⟨2, win, mps, mtu, tri⟩) (f := ⟨3, seq, ack, poll, fin, say, seg, len, data⟩) hI.crx (frm3 hok rfl)).2.2
 rw [show hearC ⟨2, win, mps, mtu, tri⟩ e1 ⟨3, seq, ack, poll, fin, say, seg, len, data⟩ = { e1 with crx := (crdHear ⟨2, win, mps, mtu, tri⟩ e1.crx ⟨3, seq, ack, poll, fin, say, seg, len, data⟩).1, got := tell e1.got (crdHear ⟨2, win, mps, mtu, tri⟩ e1.crx ⟨3, seq, ack, poll, fin, say, seg, len, data⟩).2 } by unfold hearC; rw [if_neg (show ¬ (3 : Int) = 4 by decide), if_pos rfl]]
 generalize crdHear ⟨2, win, mps, mtu, tri⟩ e1.crx ⟨3, seq, ack, poll, fin, say, seg, len, data⟩ = tq at hc1 hsl ⊢
 obtain ⟨⟨out, ⟨rlen, rgot⟩, dead⟩, sdus⟩ := tq
 dsimp only at hc1 hsl ⊢
 refine tT ?_; refine callP (hc1) rfl rfl ?_; rintro u z7 hz7 ⟨_, _, rfl, ⟨kA, kC, ks, rfl, hk5, he5, hr5⟩, ⟨B6, k6, cs6, rfl, hk6, he6, hr6⟩⟩; refine gO ?_; (try simp only [seval, go_sem])
 try dsimp only at hk5 he5 hk6 he6
 have h5 : By z7 rgot (.slice kA rgot.length kC) := ⟨_, _, _, rfl, hk5, he5, hr5⟩
 refine gO ?_
 (refine stoV_row 10 rfl rfl rfl rfl rfl rfl rfl (by rw [endsC_len]; simp) ?_; simp only [seval, go_sem, ends_crx1]; refine gO ?_)
 have hzz := Zc.trans' hz05 hz7
 refine loopV.tf (Tf.cut 50 rfl rfl 1 (rest.length + 1) C1 (by omega) (by simp) hcap (by omega) (.inr (.inr hA))) ?_
 simp only [Nat.one_mul, Nat.add_sub_cancel, hnv]
 refine loop_upd (ι := TelS) (n := 2) (fun s => z7 ≤ s.z ∧ s.i ≤ sdus.length ∧ s.g = tell e1.got (sdus.take s.i) ∧ Els sduRep s.z s.g s.V ∧ s.g.length ≤ s.C ∧ s.g.length ≤ 60) (fun s => [(144, .c (.v (.int .i64 s.i)))])
  (fun s => wldK b ⟨2, win, mps, mtu, tri⟩ link e0 { e1 with crx := ⟨out, ⟨rlen, rgot⟩, dead⟩, got := s.g } n0 rest ⟨E, EC, N, NC, m0, { m1 with kA := kA, kC := kC, gA := s.A, gC := s.C, gV := s.V }, ⟨A0, C0, ms0⟩, ⟨cutA A1 C1 1 2, C1 - 1, ms⟩⟩ ++ [(1, .cells 65 [.v (.int .i64 3), .v (.int .i64 seq), .v (.int .i64 ack), .v (.bool poll), .v (.bool fin), .v (.int .i64 say), .v (.int .i64 seg), .v (.int .i64 len), .v (.slice Ax data.length kx)])]) (fun s => s.z) (fun s => sdus.length - s.i) ⟨0, e1.got, m1.gA, m1.gC, m1.gV, z7⟩ ⟨Zc.rfl' _, by simp, by simp [tell], hR1.go.mono hzz, hR1.gc, hI.got.1⟩ (by (simp only [wrI, wrR, anyL, st, List.append_nil, List.nil_append, List.cons_append]); exact rfl) ?_ ?_
 ·simp only [wldK, wldE, List.cons_append, List.nil_append]
  exact lX
 ·rintro ⟨i, g, gA, gC, gV, z8⟩ ⟨hz8, hi, hgl, hge, hgc, hg60⟩
  dsimp only at *
  simp only [wldK, wldE, List.cons_append, List.nil_append]
  refine gO ?_
  (with_reducible refine condI.split (fun hg => ?_) (fun hg => ?_) <;> (try simp only [hg]) <;> (try simp only [seval, go_sem]))
  ·have hi' : i < sdus.length := by simp at hg; omega
   obtain ⟨x, hx'⟩ : ∃ x, sdus[i]? = some x := ⟨_, List.getElem?_eq_getElem hi'⟩
   obtain ⟨c1, ⟨v, rfl, hb⟩, hr1⟩ := (he6.mono hz8).at (hr6.mono hz8) hx'
   obtain ⟨Ay, cy, rfl, hcy, hBy, hry⟩ := By.form hb
   have hat := he6.isAt hr6 (by decide) hi'
   refine gO ?_
   (refine ⟨⟨by omega, by omega, hat⟩, ?_⟩; (try simp only [seval, go_sem]))
   (refine ldF.one _ (by first | exact .inl hr1 | exact hr1) ?_; (try simp only [seval, go_sem]))
   refine gO ?_
   (refine ldF.one _ (RdS.cell 10 rfl rfl) ?_; refine gO ?_)
   (with_reducible refine condI.split (fun hg => ?_) (fun hg => ?_) <;> (try simp only [hg]) <;> (try simp only [seval, go_sem]))
   ·refine gO ?_
    (refine ldF.one _ (RdS.cell 10 rfl rfl) ?_; refine gO ?_)
    refine aT ?_; (refine appM_newF 33 atyS rfl rfl rfl rfl rfl rfl rfl (by simp [Value.oneCell']) (by omega) (fun A6 c6 hc6 hat6 => ?_)); refine gO ?_
    (refine stoV_row 10 rfl rfl rfl rfl rfl rfl rfl (by rw [endsC_len]; simp) ?_; refine gO ?_)
    rw [ends_gotV1 _ _ _ _ (g ++ [x]) _ _ _ (gV ++ [.slice Ay x.length cy]) (by simp), show g.length + 1 = (g ++ [x]).length by simp]
    refine ⟨⟨i + 1, g ++ [x], A6, c6, gV ++ [.slice Ay x.length cy], z8⟩, ⟨hz8, by dsimp only; omega, ?_, hge.append (Els.single (d := sduRep) ⟨_, rfl, By.mk hcy hBy hry⟩), by simp; exact hc6, by have := of_decide_eq_true hg; simp; omega⟩, by dsimp only; omega, ?_⟩
    ·dsimp only; rw [tell_take hx', ← hgl, if_pos (by have := of_decide_eq_true hg; omega)]
    ·exact lX
   ·refine gO ?_
    refine ⟨⟨i + 1, g, gA, gC, gV, z8⟩, ⟨hz8, by dsimp only; omega, by dsimp only; rw [tell_take hx', ← hgl, if_neg (by have := of_decide_eq_false hg; omega)], hge, hgc, hg60⟩, by dsimp only; omega, ?_⟩
    exact lX
  ·have hil : i = sdus.length := by simp at hg; omega
   subst hil
   rw [List.take_length] at hgl
   subst hgl
   refine gO ?_
   have hR8 : WldB z8 e0 { e1 with crx := ⟨out, ⟨rlen, rgot⟩, dead⟩, got := (tell e1.got sdus) } n0 rest ⟨E, EC, N, NC, m0, { m1 with kA := kA, kC := kC, gA := gA, gC := gC, gV := gV }, ⟨A0, C0, ms0⟩, ⟨cutA A1 C1 1 2, C1 - 1, ms⟩⟩ := ⟨hR0.mono (Zc.trans' hzz hz8), { (hR1.mono (Zc.trans' hzz hz8)) with kj := Sl.mono hz8 h5, go := hge, gc := hgc }, hRn0, ⟨hno, hcap1⟩⟩
   (refine callT.give 93 0 2003 rfl rfl (fun b3 => ?_)); simp only [seval, go_sem, giveSt, subV, subC, subE, subL]
   refine wC ?_
   refine tT ?_; refine callW 94 (say_p1 b3 ⟨2, win, mps, mtu, tri⟩ link e0 { e1 with crx := ⟨out, ⟨rlen, rgot⟩, dead⟩, got := (tell e1.got sdus) } n0 rest ⟨E, EC, N, NC, m0, { m1 with kA := kA, kC := kC, gA := gA, gC := gC, gV := gV }, ⟨A0, C0, ms0⟩, ⟨cutA A1 C1 1 2, C1 - 1, ms⟩⟩ [] (.slice none 0 0) z8 hR8 (Sl.nil _ _ _) (by simp) (by simp) (by skip; omega) (by simp at h1; omega)) rfl rfl rfl rfl ?_; rintro v3 z3 A3 hz3 ⟨f0, f1, g0, g1, m3, link3, hw3, rfl, hR9⟩; refine gO ?_
   refine wO ?_
   refine wF5 ?_
   exact ⟨f0, f1, g0, g1, m3, link3, hw3, rfl, hR9⟩
theorem hear_c4_1 (b : Nat) (c : Cfg) (link : Int) (e0 e1 : End) (n0 n1 : List Msg) (msg : Msg) (rest : List Msg) (f : Frm) (m : WM) (z : Zc) (hR : WldB z e0 e1 n0 n1 m) (hI : EndI c e1) (hm : c.mode = 2) (h0 : n0.length ≤ 30) (h1 : n1.length ≤ 30) (h15 : msg.bytes.length ≤ 15) (hn : n1 = msg :: rest) (hf : frmRead msg.bytes = some f) (hok : frmOk f = true) (hkk : f.kind = 4) (hE : IsAt m.E) (hN : IsAt m.N) (hA : IsAt m.n1.A) :
  Spec Tryz.prog 105 [.pointer (some ⟨b, 0, none⟩), .int .i64 1] z (wldP b c link e0 e1 n0 n1 m) fun _ z' A' => WldQ c ⟨c, [e0, e1].set 1 (hearC c e1 f), [n0, n1].set 1 rest, link⟩ b z' A' := by
 subst hn
 obtain ⟨E, EC, N, NC, m0, m1, ⟨A0, C0, ms0⟩, ⟨A1, C1, ms1⟩⟩ := m
 obtain ⟨hR0, hR1, hRn0, hRn1⟩ := hR
 have hno := hRn1.ok
 have hcap := hRn1.cap
 dsimp only at hno hcap hR0 hR1 hRn0 hRn1 hE hN hA
 cases ms1 with
 | nil => exact hno.elim
 | cons x ms =>
 obtain ⟨a, cb⟩ := x
 obtain ⟨⟨hb1, hb2⟩, hno⟩ := hno
 have hvl := netV_len hno
 have hlr : (msg :: rest).length = rest.length + 1 := rfl
 have hnv : List.take (rest.length * 2) (List.drop 2 (netV (msg :: rest) ((a, cb) :: ms))) = netV rest ms := List.take_of_length_le (by show (netV rest ms).length ≤ _; omega)
 have hcap1 : rest.length ≤ C1 - 1 := by rw [hlr] at hcap; omega
 obtain ⟨kind, seq, ack, poll, fin, say, seg, len, data⟩ := f
 dsimp only at hkk
 subst hkk
 obtain ⟨mode, win, mps, mtu, tri⟩ := c
 dsimp only at hm
 subst hm
 refine eQ kyI k105 ?_
 ((first | refine ⟨⟨by omega, hN⟩, ?_⟩ | refine ⟨hN, ?_⟩); (try simp only [seval, go_sem]))
 (refine ldF.one _ (RdS.cell 11 rfl rfl) ?_; refine gO ?_)
 refine ⟨⟨by simp, hA⟩, ?_⟩
 refine gO ?_
 (refine ldF.one _ (RdS.cell 50 rfl rfl) ?_; refine gO ?_)
 refine callT.tf (Tf.split 51 46 rfl rfl rfl) ?_
 dsimp only
 refine callT.frzA 46 rfl (RdA.bys hb1 hb2) (fun z4 hz4 hby => ?_)
 dsimp only at hz4
 simp only [seval, go_sem]
 have hc := frmRead_i msg.bytes _ z4 hby (by omega)
 simp only [hf] at hc
 refine tT ?_; refine callP (hc) rfl rfl ?_; rintro u z5 hz5 ⟨x, rfl, hx⟩; (try simp only [seval, go_sem])
 obtain ⟨Ax, kx, rfl, hkx, hBx, hrx⟩ := hx.form
 try dsimp only at hx
 refine gO ?_
 ((first | refine ⟨⟨by omega, hN⟩, ?_⟩ | refine ⟨hN, ?_⟩); (try simp only [seval, go_sem]))
 (refine ldF.one _ (RdS.cell 11 rfl rfl) ?_; refine gO ?_)
 refine ⟨by omega, ?_⟩; refine gO ?_
 ((first | refine ⟨⟨by omega, hN⟩, ?_⟩ | refine ⟨hN, ?_⟩); (try simp only [seval, go_sem]))
 (refine stoV_row 11 rfl rfl rfl rfl rfl rfl rfl (by simp) ?_; simp only [seval, go_sem, putV]; refine gO ?_)
 ((first | refine ⟨⟨by omega, hE⟩, ?_⟩ | refine ⟨hE, ?_⟩); (try simp only [seval, go_sem]))
 refine gO ?_
 have hz05 := Zc.trans' hz4 hz5
 have hp8 := hI.ctx.small
 have hq24 := hI.ctx.queue
 refine ldF.agg (sz := 5) (ctxL e1 m1) rfl (RdS.part 10 rfl (fun i u hu => ends_sub (l1 := (endsC e0 e1 m0 m1).take 45) (l3 := (endsC e0 e1 m0 m1).drop 50) rfl rfl hu)) ?_
 refine gO ?_
 have hc1 := crdtake_i ⟨2, win, mps, mtu, tri⟩ e1.ctx len _ z5 (hR1.cq.mono hz05) (by omega) (fun p hp => by have := hp8 p hp; omega)
 simp only [crdTakeG_ok hI.ctx (frm4 hok rfl)] at hc1
 rw [show hearC ⟨2, win, mps, mtu, tri⟩ e1 ⟨4, seq, ack, poll, fin, say, seg, len, data⟩ = { e1 with ctx := crdTake e1.ctx len } by unfold hearC; rw [if_pos rfl]]
 generalize crdTake e1.ctx len = tp at hc1 ⊢
 obtain ⟨hav, qu, granted, sent, dead⟩ := tp
 dsimp only at hc1 ⊢
 refine tT ?_; refine callP (hc1) rfl rfl ?_; rintro u z6 hz6 ⟨_, rfl, cA, cC, ccs, rfl, hkc, hec, hrc⟩; refine gO ?_
 try dsimp only at hkc hec
 have hcq : Sl pRep z6 qu (.slice cA qu.length cC) := ⟨_, _, _, rfl, hkc, hec, hrc⟩
 have hzz := Zc.trans' hz05 hz6
 (refine stoV_row 10 rfl rfl rfl rfl rfl rfl rfl (by rw [endsC_len]; simp) ?_; simp only [seval, go_sem, ends_ctx1]; refine gO ?_)
 refine loopV.tf (Tf.cut 50 rfl rfl 1 (rest.length + 1) C1 (by omega) (by simp) hcap (by omega) (.inr (.inr hA))) ?_
 simp only [Nat.one_mul, Nat.add_sub_cancel, hnv]
 refine loopV.rounds 1 ?_
 rw [roundsV_succ]
 refine gO ?_
 try simp only [seval, go_sem, show decide ((0 : Int) < ((0 : Nat) : Int)) = false from rfl]
 refine gO ?_
 simp only [seval, go_sem, roundK_exit]
 refine gO ?_
 have hR8 : WldB z6 e0 { e1 with ctx := ⟨hav, qu, granted, sent, dead⟩ } n0 rest ⟨E, EC, N, NC, m0, { m1 with cA := cA, cC := cC }, ⟨A0, C0, ms0⟩, ⟨cutA A1 C1 1 2, C1 - 1, ms⟩⟩ := ⟨hR0.mono hzz, { (hR1.mono hzz) with cq := hcq }, hRn0, ⟨hno, hcap1⟩⟩
 (refine callT.give 93 0 2003 rfl rfl (fun b3 => ?_)); simp only [seval, go_sem, giveSt, subV, subC, subE, subL]
 refine wC ?_
 refine tT ?_; refine callW 94 (say_p1 b3 ⟨2, win, mps, mtu, tri⟩ link e0 { e1 with ctx := ⟨hav, qu, granted, sent, dead⟩ } n0 rest ⟨E, EC, N, NC, m0, { m1 with cA := cA, cC := cC }, ⟨A0, C0, ms0⟩, ⟨cutA A1 C1 1 2, C1 - 1, ms⟩⟩ [] (.slice none 0 0) z6 hR8 (Sl.nil _ _ _) (by simp) (by simp) (by skip; omega) (by simp at h1; omega)) rfl rfl rfl rfl ?_; rintro v3 z3 A3 hz3 ⟨f0, f1, g0, g1, m3, link3, hw3, rfl, hR9⟩; refine gO ?_
 refine wO ?_
 refine wF5 ?_
 exact ⟨f0, f1, g0, g1, m3, link3, hw3, rfl, hR9⟩
theorem crd_all0 (b : Nat) (c : Cfg) (link : Int) (e0 e1 : End) (n0 n1 : List Msg) (m : WM) (ev : Evt) (v : Value) (z : Zc) (hv : By z ev.data v) (hd : ev.data.length ≤ 100) (hR : WldB z e0 e1 n0 n1 m) (hI : EndI c e0) (h0 : n0.length ≤ 30) (h1 : n1.length ≤ 30) (hw : ev.who = 0) (hk : 1 ≤ ev.kind ∧ ev.kind ≤ 6) :
  Spec Tryz.prog 108 [.pointer (some ⟨b, 0, none⟩), vEvt ev v] z (wldP b c link e0 e1 n0 n1 m) fun _ z' A' => WldQ c (forCrd ⟨c, [e0, e1], [n0, n1], link⟩ 0 ev) b z' A' := by
 have : ev.kind = 1 ∨ ev.kind = 2 ∨ ev.kind = 6 ∨ (ev.kind = 3 ∨ ev.kind = 4 ∨ ev.kind = 5) := by omega
 rcases this with h | h | h | h
 ·exact crd_put0 b c link e0 e1 n0 n1 m ev v z hv (by omega) hR hI hw h
 ·exact crd_send0 b c link e0 e1 n0 n1 m ev v z hv hR hI h0 h1 hw h
 ·exact crd_grant0 b c link e0 e1 n0 n1 m ev v z hv hR hI h0 h1 hw h
 ·exact crd_none0 b c link e0 e1 n0 n1 m ev v z hv hR hw h
theorem crd_all1 (b : Nat) (c : Cfg) (link : Int) (e0 e1 : End) (n0 n1 : List Msg) (m : WM) (ev : Evt) (v : Value) (z : Zc) (hv : By z ev.data v) (hd : ev.data.length ≤ 100) (hR : WldB z e0 e1 n0 n1 m) (hI : EndI c e1) (h0 : n0.length ≤ 30) (h1 : n1.length ≤ 30) (hw : ev.who = 1) (hk : 1 ≤ ev.kind ∧ ev.kind ≤ 6) :
  Spec Tryz.prog 108 [.pointer (some ⟨b, 0, none⟩), vEvt ev v] z (wldP b c link e0 e1 n0 n1 m) fun _ z' A' => WldQ c (forCrd ⟨c, [e0, e1], [n0, n1], link⟩ 1 ev) b z' A' := by
 have : ev.kind = 1 ∨ ev.kind = 2 ∨ ev.kind = 6 ∨ (ev.kind = 3 ∨ ev.kind = 4 ∨ ev.kind = 5) := by omega
 rcases this with h | h | h | h
 ·exact crd_put1 b c link e0 e1 n0 n1 m ev v z hv (by omega) hR hI hw h
 ·exact crd_send1 b c link e0 e1 n0 n1 m ev v z hv hR hI h0 h1 hw h
 ·exact crd_grant1 b c link e0 e1 n0 n1 m ev v z hv hR hI h0 h1 hw h
 ·exact crd_none1 b c link e0 e1 n0 n1 m ev v z hv hR hw h
theorem step_c0 (b : Nat) (c : Cfg) (link : Int) (e0 e1 : End) (n0 n1 : List Msg) (m : WM) (ev : Evt) (v : Value) (z : Zc) (hv : By z ev.data v) (hd : ev.data.length ≤ 100) (hR : WldB z e0 e1 n0 n1 m) (hI : EndI c e0) (h0 : n0.length ≤ 30) (h1 : n1.length ≤ 30) (hm : c.mode = 2) (hw : ev.who = 0) (hk : 1 ≤ ev.kind ∧ ev.kind ≤ 6) :
  Spec Tryz.prog 66 [.pointer (some ⟨b, 0, none⟩), vEvt ev v] z (wldP b c link e0 e1 n0 n1 m) fun _ z' A' => WldQ c (forCrd ⟨c, [e0, e1], [n0, n1], link⟩ 0 ev) b z' A' := by
 obtain ⟨Av, kv, rfl, hkv, hBv, hrv⟩ := hv.form
 have hc := fun bb => crd_all0 bb c link e0 e1 n0 n1 m ev _ z hv hd hR hI h0 h1 hw hk
 obtain ⟨kind, who, at_, vv, data⟩ := ev
 obtain ⟨mode, win, mps, mtu, tri⟩ := c
 dsimp only at *
 subst hw
 subst hm
 have k7 : (kind == 7) = false := by simp; omega
 have k8 : (kind == 8) = false := by simp; omega
 have k9 : (kind == 9) = false := by simp; omega
 have k10 : (kind == 10) = false := by simp; omega
 have k11 : (kind == 11) = false := by simp; omega
 have l7 : decide (kind < 7) = true := decide_eq_true (by omega)
 refine eQ kyI k66 ?_
 refine vsI.atR 11 rfl fun hN => ?_
 have hN := hN (by omega)
 refine gO ?_
 refine tT ?_; refine callP (in_i 0 0 1 z) rfl rfl ?_; rintro _ _ - ⟨rfl, rfl⟩; refine gO ?_
 simp only [seval, go_sem, show inB 0 0 1 = true from rfl, show inB 1 0 1 = true from rfl]
 refine gO ?_
 ((first | refine ⟨⟨by omega, hN⟩, ?_⟩ | refine ⟨hN, ?_⟩); (try simp only [seval, go_sem]))
 refine gO ?_
 (refine ldF.one _ (RdS.cell 11 rfl rfl) ?_; refine gO ?_)
 repeat (simp only [seval, go_sem, k7, k8, k9, k10, k11, l7]; refine gO ?_)
 (refine callT.give 93 0 2003 rfl rfl (fun b3 => ?_)); simp only [seval, go_sem, giveSt, subV, subC, subE, subL]
 refine wC ?_
 refine tT ?_; refine callW 94 (hc b3) rfl rfl rfl rfl ?_; rintro v3 z3 A3 hz3 ⟨f0, f1, g0, g1, m3, link3, hw3, rfl, hR3⟩; refine gO ?_
 refine wO ?_
 refine wF5 ?_
 exact ⟨f0, f1, g0, g1, m3, link3, hw3, rfl, hR3⟩
theorem step_c1 (b : Nat) (c : Cfg) (link : Int) (e0 e1 : End) (n0 n1 : List Msg) (m : WM) (ev : Evt) (v : Value) (z : Zc) (hv : By z ev.data v) (hd : ev.data.length ≤ 100) (hR : WldB z e0 e1 n0 n1 m) (hI : EndI c e1) (h0 : n0.length ≤ 30) (h1 : n1.length ≤ 30) (hm : c.mode = 2) (hw : ev.who = 1) (hk : 1 ≤ ev.kind ∧ ev.kind ≤ 6) :
  Spec Tryz.prog 66 [.pointer (some ⟨b, 0, none⟩), vEvt ev v] z (wldP b c link e0 e1 n0 n1 m) fun _ z' A' => WldQ c (forCrd ⟨c, [e0, e1], [n0, n1], link⟩ 1 ev) b z' A' := by
 obtain ⟨Av, kv, rfl, hkv, hBv, hrv⟩ := hv.form
 have hc := fun bb => crd_all1 bb c link e0 e1 n0 n1 m ev _ z hv hd hR hI h0 h1 hw hk
 obtain ⟨kind, who, at_, vv, data⟩ := ev
 obtain ⟨mode, win, mps, mtu, tri⟩ := c
 dsimp only at *
 subst hw
 subst hm
 have k7 : (kind == 7) = false := by simp; omega
 have k8 : (kind == 8) = false := by simp; omega
 have k9 : (kind == 9) = false := by simp; omega
 have k10 : (kind == 10) = false := by simp; omega
 have k11 : (kind == 11) = false := by simp; omega
 have l7 : decide (kind < 7) = true := decide_eq_true (by omega)
 refine eQ kyI k66 ?_
 refine vsI.atR 11 rfl fun hN => ?_
 have hN := hN (by omega)
 refine gO ?_
 refine tT ?_; refine callP (in_i 1 0 1 z) rfl rfl ?_; rintro _ _ - ⟨rfl, rfl⟩; refine gO ?_
 simp only [seval, go_sem, show inB 0 0 1 = true from rfl, show inB 1 0 1 = true from rfl]
 refine gO ?_
 ((first | refine ⟨⟨by omega, hN⟩, ?_⟩ | refine ⟨hN, ?_⟩); (try simp only [seval, go_sem]))
 refine gO ?_
 (refine ldF.one _ (RdS.cell 11 rfl rfl) ?_; refine gO ?_)
 repeat (simp only [seval, go_sem, k7, k8, k9, k10, k11, l7]; refine gO ?_)
 (refine callT.give 93 0 2003 rfl rfl (fun b3 => ?_)); simp only [seval, go_sem, giveSt, subV, subC, subE, subL]
 refine wC ?_
 refine tT ?_; refine callW 94 (hc b3) rfl rfl rfl rfl ?_; rintro v3 z3 A3 hz3 ⟨f0, f1, g0, g1, m3, link3, hw3, rfl, hR3⟩; refine gO ?_
 refine wO ?_
 refine wF5 ?_
 exact ⟨f0, f1, g0, g1, m3, link3, hw3, rfl, hR3⟩
set_option maxHeartbeats 2000000
theorem step_i0 (b : Nat) (c : Cfg) (link : Int) (e0 e1 : End) (n0 n1 : List Msg) (m : WM) (ev : Evt) (v : Value) (z : Zc) (hv : By z ev.data v) (hd : ev.data.length ≤ 100) (hR : WldB z e0 e1 n0 n1 m) (h30 : n0.length ≤ 30) (hw : ev.who = 0) (hk : ev.kind = 11) :
  Spec Tryz.prog 66 [.pointer (some ⟨b, 0, none⟩), vEvt ev v] z (wldP b c link e0 e1 n0 n1 m) fun _ z' A' => WldQ c (if n0.length < 30 ∧ ev.data.length ≤ 15 then ⟨c, [e0, e1], [n0, n1].set 0 (n0 ++ [⟨false, ev.data⟩]), link⟩ else ⟨c, [e0, e1], [n0, n1], link⟩) b z' A' := by
 obtain ⟨Av, kv, rfl, hkv, hBv, hrv⟩ := hv.form
 obtain ⟨kind, who, at_, vv, data⟩ := ev
 dsimp only at *
 subst hw
 subst hk
 have hlen := hR.n0.ok.len
 have hvl := netV_len hR.n0.ok
 by_cases h3 : n0.length < 30
 ·have hroom := fun bb => room0 bb c link e0 e1 n0 n1 m z (by omega)
  simp only [decide_eq_true h3] at hroom
  by_cases h15 : data.length ≤ 15
  ·have d15 : decide ((data.length : Int) ≤ 15) = true := decide_eq_true (by omega)
   rw [if_pos ⟨h3, h15⟩]
   refine eQ kyI k66 ?_
   refine vsI.atR 11 rfl fun hN => ?_
   have hN := hN (by omega)
   refine gO ?_
   refine tT ?_; refine callP (in_i 0 0 1 z) rfl rfl ?_; rintro _ _ - ⟨rfl, rfl⟩; refine gO ?_
   simp only [seval, go_sem, show inB 0 0 1 = true from rfl, show inB 1 0 1 = true from rfl]
   refine gO ?_
   ((first | refine ⟨⟨by omega, hN⟩, ?_⟩ | refine ⟨hN, ?_⟩); (try simp only [seval, go_sem]))
   refine gO ?_
   (refine ldF.one _ (RdS.cell 11 rfl rfl) ?_; refine gO ?_)
   (refine callT.give 90 0 2001 rfl rfl (fun bb => ?_)); simp only [seval, go_sem, giveSt, subV, subC, subE, subL]
   refine wD ?_
   refine tT ?_; refine callW 91 (hroom bb) rfl rfl rfl rfl ?_; rintro v2 z2 A2 hz2 ⟨rfl, rfl, rfl⟩; (try simp only [seval, go_sem])
   simp only [seval, go_sem, d15]
   (refine vsI.tf (Tf.open' 91 [92, 10, 11, 22, 23, 32, 33, 40, 41, 50, 51] rfl rfl rfl) ?_); simp only [seval, go_sem, zipL]
   (refine vsI.take' [0] 92 0 2001 rfl rfl rfl ?_); simp only [seval, go_sem, takeSt', unAt, unV, vals]; refine gO ?_
   (with_reducible refine joinV.id ?_; simp only [seval, go_sem])
   repeat' (first | (refine And.intro ?_ ?_ <;> (try simp only [seval, go_sem])) | (refine ldF.one _ (RdS.cell 11 rfl rfl) ?_; refine gO ?_))
   all_goals refine tT ?_; refine callO 95 (cloneByO data _ z hv (by omega)) rfl rfl rfl ?_; rintro v3 z3 A3 hz3 ⟨A5, rfl, rfl⟩; refine gO ?_
   repeat' (first | (refine And.intro ?_ ?_ <;> (try simp only [seval, go_sem])) | (refine ldF.one _ (RdS.cell 11 rfl rfl) ?_; refine gO ?_))
   all_goals refine aT ?_; (refine appM_newF 40 atyMs rfl rfl rfl rfl rfl rfl rfl (by simp [Value.oneCell']) (by omega) (fun A6 c6 hc6 hat6 => ?_)); refine gO ?_
   all_goals refine stoV_row 11 rfl rfl rfl rfl rfl rfl rfl (by simp) ?_
   all_goals simp only [seval, go_sem, putV]
   all_goals refine gO ?_
   all_goals (refine FinV.pk 96 [41, 95] ?_); dsimp only
   all_goals refine FinV.tf (Tf.own 96 rfl rfl (fun w F h => starL_push h)) ?_
   all_goals dsimp only
   all_goals (refine FinV.give 1000 0 2005 2000 rfl rfl rfl ?_); simp only [seval, go_sem, giveSt, subV, subC, subE, subL]
   all_goals (refine FinV.pk 999 [1000, 10, 11, 22, 23, 32, 33, 40, 96, 50, 51] ?_); dsimp only
   all_goals refine fP ?_
   all_goals have hR := hR.mono hz3
   all_goals refine ⟨e0, e1, n0 ++ [⟨false, data⟩], n1, { m with n0 := ⟨A6, c6, m.n0.ms ++ [(A5, data.length)]⟩ }, link, rfl, ?_, ⟨hR.e0, hR.e1, hR.n0.snoc hc6 (Nat.le_refl _) hBv, hR.n1⟩⟩
   all_goals simp only [wldP, wldL, netV_snoc _ _ _ _ _ hlen, netB_snoc _ _ _ _ _ hlen, List.length_append, List.length_singleton]
   all_goals rfl
  ·have d15 : decide ((data.length : Int) ≤ 15) = false := decide_eq_false (by omega)
   rw [if_neg (fun h => h15 h.2)]
   refine eQ kyI k66 ?_
   refine vsI.atR 11 rfl fun hN => ?_
   have hN := hN (by omega)
   refine gO ?_
   refine tT ?_; refine callP (in_i 0 0 1 z) rfl rfl ?_; rintro _ _ - ⟨rfl, rfl⟩; refine gO ?_
   simp only [seval, go_sem, show inB 0 0 1 = true from rfl, show inB 1 0 1 = true from rfl]
   refine gO ?_
   ((first | refine ⟨⟨by omega, hN⟩, ?_⟩ | refine ⟨hN, ?_⟩); (try simp only [seval, go_sem]))
   refine gO ?_
   (refine ldF.one _ (RdS.cell 11 rfl rfl) ?_; refine gO ?_)
   (refine callT.give 90 0 2001 rfl rfl (fun bb => ?_)); simp only [seval, go_sem, giveSt, subV, subC, subE, subL]
   refine wD ?_
   refine tT ?_; refine callW 91 (hroom bb) rfl rfl rfl rfl ?_; rintro v2 z2 A2 hz2 ⟨rfl, rfl, rfl⟩; (try simp only [seval, go_sem])
   simp only [seval, go_sem, d15]
   (refine vsI.tf (Tf.open' 91 [92, 10, 11, 22, 23, 32, 33, 40, 41, 50, 51] rfl rfl rfl) ?_); simp only [seval, go_sem, zipL]
   (refine vsI.take' [0] 92 0 2001 rfl rfl rfl ?_); simp only [seval, go_sem, takeSt', unAt, unV, vals]; refine gO ?_
   refine wF5 ?_
   exact WldQ.mk hR
 ·have hroom := fun bb => room0 bb c link e0 e1 n0 n1 m z (by omega)
  simp only [decide_eq_false h3] at hroom
  rw [if_neg (fun h => h3 h.1)]
  refine eQ kyI k66 ?_
  refine vsI.atR 11 rfl fun hN => ?_
  have hN := hN (by omega)
  refine gO ?_
  refine tT ?_; refine callP (in_i 0 0 1 z) rfl rfl ?_; rintro _ _ - ⟨rfl, rfl⟩; refine gO ?_
  simp only [seval, go_sem, show inB 0 0 1 = true from rfl, show inB 1 0 1 = true from rfl]
  refine gO ?_
  ((first | refine ⟨⟨by omega, hN⟩, ?_⟩ | refine ⟨hN, ?_⟩); (try simp only [seval, go_sem]))
  refine gO ?_
  (refine ldF.one _ (RdS.cell 11 rfl rfl) ?_; refine gO ?_)
  (refine callT.give 90 0 2001 rfl rfl (fun bb => ?_)); simp only [seval, go_sem, giveSt, subV, subC, subE, subL]
  refine wD ?_
  refine tT ?_; refine callW 91 (hroom bb) rfl rfl rfl rfl ?_; rintro v2 z2 A2 hz2 ⟨rfl, rfl, rfl⟩; (try simp only [seval, go_sem])
  (refine vsI.tf (Tf.open' 91 [92, 10, 11, 22, 23, 32, 33, 40, 41, 50, 51] rfl rfl rfl) ?_); simp only [seval, go_sem, zipL]
  (refine vsI.take' [0] 92 0 2001 rfl rfl rfl ?_); simp only [seval, go_sem, takeSt', unAt, unV, vals]; refine gO ?_
  refine wF5 ?_
  exact WldQ.mk hR
theorem step_i1 (b : Nat) (c : Cfg) (link : Int) (e0 e1 : End) (n0 n1 : List Msg) (m : WM) (ev : Evt) (v : Value) (z : Zc) (hv : By z ev.data v) (hd : ev.data.length ≤ 100) (hR : WldB z e0 e1 n0 n1 m) (h30 : n1.length ≤ 30) (hw : ev.who = 1) (hk : ev.kind = 11) :
  Spec Tryz.prog 66 [.pointer (some ⟨b, 0, none⟩), vEvt ev v] z (wldP b c link e0 e1 n0 n1 m) fun _ z' A' => WldQ c (if n1.length < 30 ∧ ev.data.length ≤ 15 then ⟨c, [e0, e1], [n0, n1].set 1 (n1 ++ [⟨false, ev.data⟩]), link⟩ else ⟨c, [e0, e1], [n0, n1], link⟩) b z' A' := by
 obtain ⟨Av, kv, rfl, hkv, hBv, hrv⟩ := hv.form
 obtain ⟨kind, who, at_, vv, data⟩ := ev
 dsimp only at *
 subst hw
 subst hk
 have hlen := hR.n1.ok.len
 have hvl := netV_len hR.n1.ok
 by_cases h3 : n1.length < 30
 ·have hroom := fun bb => room1 bb c link e0 e1 n0 n1 m z (by omega)
  simp only [decide_eq_true h3] at hroom
  by_cases h15 : data.length ≤ 15
  ·have d15 : decide ((data.length : Int) ≤ 15) = true := decide_eq_true (by omega)
   rw [if_pos ⟨h3, h15⟩]
   refine eQ kyI k66 ?_
   refine vsI.atR 11 rfl fun hN => ?_
   have hN := hN (by omega)
   refine gO ?_
   refine tT ?_; refine callP (in_i 1 0 1 z) rfl rfl ?_; rintro _ _ - ⟨rfl, rfl⟩; refine gO ?_
   simp only [seval, go_sem, show inB 0 0 1 = true from rfl, show inB 1 0 1 = true from rfl]
   refine gO ?_
   ((first | refine ⟨⟨by omega, hN⟩, ?_⟩ | refine ⟨hN, ?_⟩); (try simp only [seval, go_sem]))
   refine gO ?_
   (refine ldF.one _ (RdS.cell 11 rfl rfl) ?_; refine gO ?_)
   (refine callT.give 90 0 2001 rfl rfl (fun bb => ?_)); simp only [seval, go_sem, giveSt, subV, subC, subE, subL]
   refine wD ?_
   refine tT ?_; refine callW 91 (hroom bb) rfl rfl rfl rfl ?_; rintro v2 z2 A2 hz2 ⟨rfl, rfl, rfl⟩; (try simp only [seval, go_sem])
   simp only [seval, go_sem, d15]
   (refine vsI.tf (Tf.open' 91 [92, 10, 11, 22, 23, 32, 33, 40, 41, 50, 51] rfl rfl rfl) ?_); simp only [seval, go_sem, zipL]
   (refine vsI.take' [0] 92 0 2001 rfl rfl rfl ?_); simp only [seval, go_sem, takeSt', unAt, unV, vals]; refine gO ?_
   (with_reducible refine joinV.id ?_; simp only [seval, go_sem])
   repeat' (first | (refine And.intro ?_ ?_ <;> (try simp only [seval, go_sem])) | (refine ldF.one _ (RdS.cell 11 rfl rfl) ?_; refine gO ?_))
   all_goals refine tT ?_; refine callO 95 (cloneByO data _ z hv (by omega)) rfl rfl rfl ?_; rintro v3 z3 A3 hz3 ⟨A5, rfl, rfl⟩; refine gO ?_
   repeat' (first | (refine And.intro ?_ ?_ <;> (try simp only [seval, go_sem])) | (refine ldF.one _ (RdS.cell 11 rfl rfl) ?_; refine gO ?_))
   all_goals refine aT ?_; (refine appM_newF 50 atyMs rfl rfl rfl rfl rfl rfl rfl (by simp [Value.oneCell']) (by omega) (fun A6 c6 hc6 hat6 => ?_)); refine gO ?_
   all_goals refine stoV_row 11 rfl rfl rfl rfl rfl rfl rfl (by simp) ?_
   all_goals simp only [seval, go_sem, putV]
   all_goals refine gO ?_
   all_goals (refine FinV.pk 96 [51, 95] ?_); dsimp only
   all_goals refine FinV.tf (Tf.own 96 rfl rfl (fun w F h => starL_push h)) ?_
   all_goals dsimp only
   all_goals (refine FinV.give 1000 0 2005 2000 rfl rfl rfl ?_); simp only [seval, go_sem, giveSt, subV, subC, subE, subL]
   all_goals (refine FinV.pk 999 [1000, 10, 11, 22, 23, 32, 33, 40, 41, 50, 96] ?_); dsimp only
   all_goals refine fP ?_
   all_goals have hR := hR.mono hz3
   all_goals refine ⟨e0, e1, n0, n1 ++ [⟨false, data⟩], { m with n1 := ⟨A6, c6, m.n1.ms ++ [(A5, data.length)]⟩ }, link, rfl, ?_, ⟨hR.e0, hR.e1, hR.n0, hR.n1.snoc hc6 (Nat.le_refl _) hBv⟩⟩
   all_goals simp only [wldP, wldL, netV_snoc _ _ _ _ _ hlen, netB_snoc _ _ _ _ _ hlen, List.length_append, List.length_singleton]
   all_goals rfl
  ·have d15 : decide ((data.length : Int) ≤ 15) = false := decide_eq_false (by omega)
   rw [if_neg (fun h => h15 h.2)]
   refine eQ kyI k66 ?_
   refine vsI.atR 11 rfl fun hN => ?_
   have hN := hN (by omega)
   refine gO ?_
   refine tT ?_; refine callP (in_i 1 0 1 z) rfl rfl ?_; rintro _ _ - ⟨rfl, rfl⟩; refine gO ?_
   simp only [seval, go_sem, show inB 0 0 1 = true from rfl, show inB 1 0 1 = true from rfl]
   refine gO ?_
   ((first | refine ⟨⟨by omega, hN⟩, ?_⟩ | refine ⟨hN, ?_⟩); (try simp only [seval, go_sem]))
   refine gO ?_
   (refine ldF.one _ (RdS.cell 11 rfl rfl) ?_; refine gO ?_)
   (refine callT.give 90 0 2001 rfl rfl (fun bb => ?_)); simp only [seval, go_sem, giveSt, subV, subC, subE, subL]
   refine wD ?_
   refine tT ?_; refine callW 91 (hroom bb) rfl rfl rfl rfl ?_; rintro v2 z2 A2 hz2 ⟨rfl, rfl, rfl⟩; (try simp only [seval, go_sem])
   simp only [seval, go_sem, d15]
   (refine vsI.tf (Tf.open' 91 [92, 10, 11, 22, 23, 32, 33, 40, 41, 50, 51] rfl rfl rfl) ?_); simp only [seval, go_sem, zipL]
   (refine vsI.take' [0] 92 0 2001 rfl rfl rfl ?_); simp only [seval, go_sem, takeSt', unAt, unV, vals]; refine gO ?_
   refine wF5 ?_
   exact WldQ.mk hR
 ·have hroom := fun bb => room1 bb c link e0 e1 n0 n1 m z (by omega)
  simp only [decide_eq_false h3] at hroom
  rw [if_neg (fun h => h3 h.1)]
  refine eQ kyI k66 ?_
  refine vsI.atR 11 rfl fun hN => ?_
  have hN := hN (by omega)
  refine gO ?_
  refine tT ?_; refine callP (in_i 1 0 1 z) rfl rfl ?_; rintro _ _ - ⟨rfl, rfl⟩; refine gO ?_
  simp only [seval, go_sem, show inB 0 0 1 = true from rfl, show inB 1 0 1 = true from rfl]
  refine gO ?_
  ((first | refine ⟨⟨by omega, hN⟩, ?_⟩ | refine ⟨hN, ?_⟩); (try simp only [seval, go_sem]))
  refine gO ?_
  (refine ldF.one _ (RdS.cell 11 rfl rfl) ?_; refine gO ?_)
  (refine callT.give 90 0 2001 rfl rfl (fun bb => ?_)); simp only [seval, go_sem, giveSt, subV, subC, subE, subL]
  refine wD ?_
  refine tT ?_; refine callW 91 (hroom bb) rfl rfl rfl rfl ?_; rintro v2 z2 A2 hz2 ⟨rfl, rfl, rfl⟩; (try simp only [seval, go_sem])
  (refine vsI.tf (Tf.open' 91 [92, 10, 11, 22, 23, 32, 33, 40, 41, 50, 51] rfl rfl rfl) ?_); simp only [seval, go_sem, zipL]
  (refine vsI.take' [0] 92 0 2001 rfl rfl rfl ?_); simp only [seval, go_sem, takeSt', unAt, unV, vals]; refine gO ?_
  refine wF5 ?_
  exact WldQ.mk hR
end Go.Proofs.YtllafcmkppmdgaaGreat
