/- What happens to one by numbers, by the program. · One sends by numbers, by the program. · One asks, is busy, or says how far all has come, by numbers, by the program. · One is busy, by numbers, by the program. · What does nothing, by numbers, by the program. · One says how far all has come, by numbers, by the program. · One hears the first frame on its way to it, by the program. -/
import Derived.Test.YtnkhjnieidlknaaGreatB19
namespace Go.Proofs.YtnkhjnieidlknaaGreat
open Go.RowKit
set_option linter.unusedVariables false
set_option linter.unusedSimpArgs false
set_option maxRecDepth 100000
set_option maxHeartbeats 2000000
theorem ends_sub {cs l1 l2 l3 : List Value} {o i : Nat} {u : Value} (e : cs = l1 ++ (l2 ++ l3)) (ho : l1.length = o) (h : l2[i]? = some u) : cs[o + i]? = some u := by
 subst e; subst ho
 have hi : i < l2.length := (List.getElem?_eq_some_iff.1 h).1
 rw [List.getElem?_append_right (by omega), Nat.add_sub_cancel_left, List.getElem?_append_left hi]
 exact h
abbrev txL (e : End) (m : EndM) : List Value := [.int .i64 e.tx.next, .int .i64 e.tx.acked, .slice m.fA e.tx.flight.length m.fC, .int .i64 e.tx.sent, .slice m.qA e.tx.queue.length m.qC, .bool e.tx.asks, .int .i64 e.tx.tries, .bool e.tx.held, .int .i64 e.tx.count, .bool e.tx.dead]
theorem bynum_put {g : Bool} {w : Wld} {who : Nat} {e : Evt} (hk : e.kind = 1) : byNum g w who e = if (endAt w who).put.length < 60 then setEnd w who { endAt w who with tx := (txPut w.cfg (endAt w who).tx e.data).1, put := if (txPut w.cfg (endAt w who).tx e.data).2 then (endAt w who).put ++ [e.data] else (endAt w who).put } else w := by unfold byNum; rw [if_pos hk]
theorem num_put0 (b : Nat) (c : Cfg) (link : Int) (e0 e1 : End) (n0 n1 : List Msg) (m : WM) (ev : Evt) (v : Value) (z : Zc) (hv : By z ev.data v) (hs : ev.data.length ≤ 100000) (hR : WldB z e0 e1 n0 n1 m) (hI : EndI c e0) (hw : ev.who = 0) (hk : ev.kind = 1) :
  Spec Tryz.prog 97 [.pointer (some ⟨b, 0, none⟩), vEvt ev v] z (wldP b c link e0 e1 n0 n1 m) fun _ z' A' => WldQ c (byNum false ⟨c, [e0, e1], [n0, n1], link⟩ 0 ev) b z' A' := by
 obtain ⟨kind, who, at_, vv, data⟩ := ev
 dsimp only at *
 subst hw
 subst hk
 obtain ⟨Av, kv, rfl, hkv, hBv, hrv⟩ := hv.form
 (refine spec_enterP [10, 11, 22, 23, 32, 33, 40, 41, 50, 51] Tryz.func97 ic97_ok fr97_ok Tryz.ntmps97 rfl ?_; simp only [seval, go_sem, ic97, fr97, zipL, vals])
 refine vsI.atR 10 rfl fun hE => ?_
 have hE := hE (by omega)
 refine gO ?_
 ((first | refine ⟨⟨by omega, hE⟩, ?_⟩ | refine ⟨hE, ?_⟩); (try simp only [seval, go_sem]))
 refine gO ?_
 (refine ldF.one _ (RdS.cell 10 rfl rfl) ?_; refine gO ?_)
 have hbn : byNum false ⟨c, [e0, e1], [n0, n1], link⟩ 0 ⟨1, 0, at_, vv, data⟩ = if e0.put.length < 60 then ⟨c, [e0, e1].set 0 { e0 with tx := (txPut c e0.tx data).1, put := if (txPut c e0.tx data).2 then e0.put ++ [data] else e0.put }, [n0, n1], link⟩ else ⟨c, [e0, e1], [n0, n1], link⟩ := bynum_put rfl
 rw [hbn]
 clear hbn
 by_cases h60 : e0.put.length < 60
 ·have d1 : decide ((e0.put.length : Int) < 60) = true := decide_eq_true (by omega)
  rw [if_pos h60]
  simp only [d1]
  refine gO ?_
  refine ldF.agg (sz := 10) (txL e0 m.m0) rfl (RdS.part 10 rfl (fun i u hu => ends_sub (l1 := (endsC e0 e1 m.m0 m.m1).take (28 * 0)) (l3 := (endsC e0 e1 m.m0 m.m1).drop (28 * 0 + 10)) rfl rfl hu)) ?_
  refine gO ?_
  have hc := txput_i c e0.tx data _ _ _ z hI.tx hR.e0.fl hR.e0.qu hv hs
  generalize txPut c e0.tx data = tp at *
  obtain ⟨⟨next, acked, fl, sent, qu, asks, tries, held, count, dead⟩, ok⟩ := tp
  dsimp only at hc
  refine tT ?_; refine callP (hc) rfl rfl ?_; rintro u z1 hz1 ⟨fA, fC, qA, qC, rfl, hf1, hq1⟩; refine gO ?_
  have hR1 : WldB z1 e0 e1 n0 n1 m := hR.mono hz1
  (refine stoV_row 10 rfl rfl rfl rfl rfl rfl rfl (by rw [endsC_len]; simp) ?_; simp only [seval, go_sem, ends_tx0]; refine gO ?_)
  have hR2 : WldB z1 { e0 with tx := ⟨next, acked, fl, sent, qu, asks, tries, held, count, dead⟩ } e1 n0 n1 { m with m0 := { m.m0 with fA := fA, fC := fC, qA := qA, qC := qC } } := ⟨{ hR1.e0 with fl := hf1, qu := hq1 }, hR1.e1, hR.n0, hR.n1⟩
  cases ok
  ·refine gO ?_
   refine wF1 ?_
   exact ⟨_, _, n0, n1, { m with m0 := { m.m0 with fA := fA, fC := fC, qA := qA, qC := qC } }, link, rfl, rfl, hR2⟩
  ·refine gO ?_
   (with_reducible refine joinV.id ?_; simp only [seval, go_sem])
   repeat' (first | (refine And.intro ?_ ?_ <;> (try simp only [seval, go_sem])) | (refine ldF.one _ (RdS.cell 10 rfl rfl) ?_; refine gO ?_))
   all_goals refine tT ?_; refine callP (cloneBy data _ z1 (hv.mono hz1) (by omega)) rfl rfl ?_; rintro v3 z3 hz3 ⟨A5, rfl, hB5, hr5⟩; refine gO ?_
   repeat' (first | (refine And.intro ?_ ?_ <;> (try simp only [seval, go_sem])) | (refine ldF.one _ (RdS.cell 10 rfl rfl) ?_; refine gO ?_))
   all_goals refine aT ?_; (refine appM_newF 22 atyS rfl rfl rfl rfl rfl rfl rfl (by simp [Value.oneCell']) (by omega) (fun A6 c6 hc6 hat6 => ?_)); refine gO ?_
   all_goals (refine stoV_row 10 rfl rfl rfl rfl rfl rfl rfl (by rw [endsC_len]; simp) ?_; refine gO ?_)
   all_goals refine wF1 ?_
   all_goals rw [ends_put0 _ _ _ _ (e0.put ++ [data]) _ _ _ (by simp)]
   all_goals have hR3 := hR2.mono hz3
   all_goals refine ⟨_, _, n0, n1, { m with m0 := { m.m0 with fA := fA, fC := fC, qA := qA, qC := qC, pA := A6, pC := c6, pV := m.m0.pV ++ [.slice A5 data.length data.length] } }, link, rfl, ?_, ⟨{ hR3.e0 with pu := hR3.e0.pu.append (Els.single (d := sduRep) ⟨_, rfl, By.mk (Nat.le_refl _) hB5 hr5⟩), pc := by simp; exact hc6 }, hR3.e1, hR.n0, hR.n1⟩⟩
   all_goals simp only [wldP, wldL, if_true, List.length_append, List.length_singleton]
   all_goals rfl
 ·have d1 : decide ((e0.put.length : Int) < 60) = false := decide_eq_false (by omega)
  rw [if_neg h60]
  simp only [d1]
  refine gO ?_
  refine wF1 ?_
  exact WldQ.mk hR
theorem num_put1 (b : Nat) (c : Cfg) (link : Int) (e0 e1 : End) (n0 n1 : List Msg) (m : WM) (ev : Evt) (v : Value) (z : Zc) (hv : By z ev.data v) (hs : ev.data.length ≤ 100000) (hR : WldB z e0 e1 n0 n1 m) (hI : EndI c e1) (hw : ev.who = 1) (hk : ev.kind = 1) :
  Spec Tryz.prog 97 [.pointer (some ⟨b, 0, none⟩), vEvt ev v] z (wldP b c link e0 e1 n0 n1 m) fun _ z' A' => WldQ c (byNum false ⟨c, [e0, e1], [n0, n1], link⟩ 1 ev) b z' A' := by
 obtain ⟨kind, who, at_, vv, data⟩ := ev
 dsimp only at *
 subst hw
 subst hk
 obtain ⟨Av, kv, rfl, hkv, hBv, hrv⟩ := hv.form
 (refine spec_enterP [10, 11, 22, 23, 32, 33, 40, 41, 50, 51] Tryz.func97 ic97_ok fr97_ok Tryz.ntmps97 rfl ?_; simp only [seval, go_sem, ic97, fr97, zipL, vals])
 refine vsI.atR 10 rfl fun hE => ?_
 have hE := hE (by omega)
 refine gO ?_
 ((first | refine ⟨⟨by omega, hE⟩, ?_⟩ | refine ⟨hE, ?_⟩); (try simp only [seval, go_sem]))
 refine gO ?_
 (refine ldF.one _ (RdS.cell 10 rfl rfl) ?_; refine gO ?_)
 have hbn : byNum false ⟨c, [e0, e1], [n0, n1], link⟩ 1 ⟨1, 1, at_, vv, data⟩ = if e1.put.length < 60 then ⟨c, [e0, e1].set 1 { e1 with tx := (txPut c e1.tx data).1, put := if (txPut c e1.tx data).2 then e1.put ++ [data] else e1.put }, [n0, n1], link⟩ else ⟨c, [e0, e1], [n0, n1], link⟩ := bynum_put rfl
 rw [hbn]
 clear hbn
 by_cases h60 : e1.put.length < 60
 ·have d1 : decide ((e1.put.length : Int) < 60) = true := decide_eq_true (by omega)
  rw [if_pos h60]
  simp only [d1]
  refine gO ?_
  refine ldF.agg (sz := 10) (txL e1 m.m1) rfl (RdS.part 10 rfl (fun i u hu => ends_sub (l1 := (endsC e0 e1 m.m0 m.m1).take (28 * 1)) (l3 := (endsC e0 e1 m.m0 m.m1).drop (28 * 1 + 10)) rfl rfl hu)) ?_
  refine gO ?_
  have hc := txput_i c e1.tx data _ _ _ z hI.tx hR.e1.fl hR.e1.qu hv hs
  generalize txPut c e1.tx data = tp at *
  obtain ⟨⟨next, acked, fl, sent, qu, asks, tries, held, count, dead⟩, ok⟩ := tp
  dsimp only at hc
  refine tT ?_; refine callP (hc) rfl rfl ?_; rintro u z1 hz1 ⟨fA, fC, qA, qC, rfl, hf1, hq1⟩; refine gO ?_
  have hR1 : WldB z1 e0 e1 n0 n1 m := hR.mono hz1
  (refine stoV_row 10 rfl rfl rfl rfl rfl rfl rfl (by rw [endsC_len]; simp) ?_; simp only [seval, go_sem, ends_tx1]; refine gO ?_)
  have hR2 : WldB z1 e0 { e1 with tx := ⟨next, acked, fl, sent, qu, asks, tries, held, count, dead⟩ } n0 n1 { m with m1 := { m.m1 with fA := fA, fC := fC, qA := qA, qC := qC } } := ⟨hR1.e0, { hR1.e1 with fl := hf1, qu := hq1 }, hR.n0, hR.n1⟩
  cases ok
  ·refine gO ?_
   refine wF1 ?_
   exact ⟨_, _, n0, n1, { m with m1 := { m.m1 with fA := fA, fC := fC, qA := qA, qC := qC } }, link, rfl, rfl, hR2⟩
  ·refine gO ?_
   (with_reducible refine joinV.id ?_; simp only [seval, go_sem])
   repeat' (first | (refine And.intro ?_ ?_ <;> (try simp only [seval, go_sem])) | (refine ldF.one _ (RdS.cell 10 rfl rfl) ?_; refine gO ?_))
   all_goals refine tT ?_; refine callP (cloneBy data _ z1 (hv.mono hz1) (by omega)) rfl rfl ?_; rintro v3 z3 hz3 ⟨A5, rfl, hB5, hr5⟩; refine gO ?_
   repeat' (first | (refine And.intro ?_ ?_ <;> (try simp only [seval, go_sem])) | (refine ldF.one _ (RdS.cell 10 rfl rfl) ?_; refine gO ?_))
   all_goals refine aT ?_; (refine appM_newF 32 atyS rfl rfl rfl rfl rfl rfl rfl (by simp [Value.oneCell']) (by omega) (fun A6 c6 hc6 hat6 => ?_)); refine gO ?_
   all_goals (refine stoV_row 10 rfl rfl rfl rfl rfl rfl rfl (by rw [endsC_len]; simp) ?_; refine gO ?_)
   all_goals refine wF1 ?_
   all_goals rw [ends_put1 _ _ _ _ (e1.put ++ [data]) _ _ _ (by simp)]
   all_goals have hR3 := hR2.mono hz3
   all_goals refine ⟨_, _, n0, n1, { m with m1 := { m.m1 with fA := fA, fC := fC, qA := qA, qC := qC, pA := A6, pC := c6, pV := m.m1.pV ++ [.slice A5 data.length data.length] } }, link, rfl, ?_, ⟨hR3.e0, { hR3.e1 with pu := hR3.e1.pu.append (Els.single (d := sduRep) ⟨_, rfl, By.mk (Nat.le_refl _) hB5 hr5⟩), pc := by simp; exact hc6 }, hR.n0, hR.n1⟩⟩
   all_goals simp only [wldP, wldL, if_true, List.length_append, List.length_singleton]
   all_goals rfl
 ·have d1 : decide ((e1.put.length : Int) < 60) = false := decide_eq_false (by omega)
  rw [if_neg h60]
  simp only [d1]
  refine gO ?_
  refine wF1 ?_
  exact WldQ.mk hR
theorem bynum_send {g : Bool} {w : Wld} {who : Nat} {e : Evt} (hk : e.kind = 2) : byNum g w who e = if (netAt w (1 - who)).length < 30 then sayO (setEnd w who { endAt w who with tx := (txSend g w.cfg (endAt w who).tx (endAt w who).rx.expect).1 }) who (txSend g w.cfg (endAt w who).tx (endAt w who).rx.expect).2 else w := by unfold byNum; rw [if_neg (by omega), if_pos hk]
theorem num_send0 (b : Nat) (c : Cfg) (link : Int) (e0 e1 : End) (n0 n1 : List Msg) (m : WM) (ev : Evt) (v : Value) (z : Zc) (hv : By z ev.data v) (hR : WldB z e0 e1 n0 n1 m) (hI : EndI c e0) (h0 : n0.length ≤ 30) (h1 : n1.length ≤ 30) (hw : ev.who = 0) (hk : ev.kind = 2) :
  Spec Tryz.prog 97 [.pointer (some ⟨b, 0, none⟩), vEvt ev v] z (wldP b c link e0 e1 n0 n1 m) fun _ z' A' => WldQ c (byNum false ⟨c, [e0, e1], [n0, n1], link⟩ 0 ev) b z' A' := by
 obtain ⟨kind, who, at_, vv, data⟩ := ev
 dsimp only at *
 subst hw
 subst hk
 have hx7 := hI.rx.expect
 obtain ⟨Av, kv, rfl, hkv, hBv, hrv⟩ := hv.form
 have hbn : byNum false ⟨c, [e0, e1], [n0, n1], link⟩ 0 ⟨2, 0, at_, vv, data⟩ = if n1.length < 30 then sayO ⟨c, [e0, e1].set 0 { e0 with tx := (txSend false c e0.tx e0.rx.expect).1 }, [n0, n1], link⟩ 0 (txSend false c e0.tx e0.rx.expect).2 else ⟨c, [e0, e1], [n0, n1], link⟩ := bynum_send rfl
 rw [hbn]
 clear hbn
 (refine spec_enterP [10, 11, 22, 23, 32, 33, 40, 41, 50, 51] Tryz.func97 ic97_ok fr97_ok Tryz.ntmps97 rfl ?_; simp only [seval, go_sem, ic97, fr97, zipL, vals])
 refine vsI.atR 10 rfl fun hE => ?_
 have hE := hE (by omega)
 refine gO ?_
 ((first | refine ⟨⟨by omega, hE⟩, ?_⟩ | refine ⟨hE, ?_⟩); (try simp only [seval, go_sem]))
 refine gO ?_
 simp only [wr10]
 (refine callT.give 90 0 2001 rfl rfl (fun bb => ?_)); simp only [seval, go_sem, giveSt, subV, subC, subE, subL]
 refine wD ?_
 refine tT ?_; refine callW 91 (room1 bb c link e0 e1 n0 n1 m z (by omega)) rfl rfl rfl rfl ?_; rintro v2 z2 A2 hz2 ⟨rfl, rfl, rfl⟩; (try simp only [seval, go_sem])
 (refine vsI.tf (Tf.open' 91 [92, 10, 11, 22, 23, 32, 33, 40, 41, 50, 51] rfl rfl rfl) ?_); simp only [seval, go_sem, zipL]
 (refine vsI.take' [0] 92 0 2001 rfl rfl rfl ?_); simp only [seval, go_sem, takeSt', unAt, unV, vals]; refine gO ?_
 by_cases h30 : n1.length < 30
 ·rw [if_pos h30]
  simp only [decide_eq_true h30]
  refine gO ?_
  (with_reducible refine joinV.id ?_; simp only [seval, go_sem])
  have hfr := fun f => @txSend_frm false c e0.tx e0.rx.expect f hI.tx hI.low hx7
  have hc := txsend_i c e0.tx e0.rx.expect _ _ z hI.tx hI.low hR.e0.fl hR.e0.qu hx7
  generalize txSend false c e0.tx e0.rx.expect = tp at hc hfr ⊢
  obtain ⟨⟨next, acked, fl, sent, qu, asks, tries, held, count, dead⟩, o⟩ := tp
  dsimp only at hc hfr ⊢
  repeat' (first | (refine And.intro ?_ ?_ <;> (try simp only [seval, go_sem])) | (refine ldF.one _ (RdS.cell 10 rfl rfl) ?_; refine gO ?_) | (refine ldF.agg (sz := 10) (txL e0 m.m0) rfl (RdS.part 10 rfl (fun i u hu => ends_sub (l1 := (endsC e0 e1 m.m0 m.m1).take (28 * 0)) (l3 := (endsC e0 e1 m.m0 m.m1).drop (28 * 0 + 10)) rfl rfl hu)) ?_; refine gO ?_))
  all_goals refine tT ?_; refine callP (hc) rfl rfl ?_; rintro u z1 hz1 ⟨xA, xn, fA, fC, qA, qC, rfl, hf1, hq1, hx1⟩; refine gO ?_
  all_goals have hR1 : WldB z1 e0 e1 n0 n1 m := hR.mono hz1
  all_goals (refine stoV_row 10 rfl rfl rfl rfl rfl rfl rfl (by rw [endsC_len]; simp) ?_; simp only [seval, go_sem, ends_tx0]; refine gO ?_)
  all_goals have hR2 : WldB z1 { e0 with tx := ⟨next, acked, fl, sent, qu, asks, tries, held, count, dead⟩ } e1 n0 n1 { m with m0 := { m.m0 with fA := fA, fC := fC, qA := qA, qC := qC } } := ⟨{ hR1.e0 with fl := hf1, qu := hq1 }, hR1.e1, hR.n0, hR.n1⟩
  all_goals (refine callT.give 93 0 2003 rfl rfl (fun b3 => ?_)); simp only [seval, go_sem, giveSt, subV, subC, subE, subL]
  all_goals refine wC ?_
  all_goals refine tT ?_; refine callW 94 (sayif_p0 b3 c link { e0 with tx := ⟨next, acked, fl, sent, qu, asks, tries, held, count, dead⟩ } e1 n0 n1 { m with m0 := { m.m0 with fA := fA, fC := fC, qA := qA, qC := qC } } o _ z1 hR2 hx1 hfr h0 h1) rfl rfl rfl rfl ?_; rintro v3 z3 A3 hz3 ⟨f0, f1, g0, g1, m3, link3, hw3, rfl, hR3⟩; refine gO ?_
  all_goals refine wO ?_
  all_goals refine wF5 ?_
  all_goals exact ⟨f0, f1, g0, g1, m3, link3, hw3, rfl, hR3⟩
 ·rw [if_neg h30]
  simp only [decide_eq_false h30]
  refine gO ?_
  refine wF3 ?_
  exact WldQ.mk hR
theorem num_send1 (b : Nat) (c : Cfg) (link : Int) (e0 e1 : End) (n0 n1 : List Msg) (m : WM) (ev : Evt) (v : Value) (z : Zc) (hv : By z ev.data v) (hR : WldB z e0 e1 n0 n1 m) (hI : EndI c e1) (h0 : n0.length ≤ 30) (h1 : n1.length ≤ 30) (hw : ev.who = 1) (hk : ev.kind = 2) :
  Spec Tryz.prog 97 [.pointer (some ⟨b, 0, none⟩), vEvt ev v] z (wldP b c link e0 e1 n0 n1 m) fun _ z' A' => WldQ c (byNum false ⟨c, [e0, e1], [n0, n1], link⟩ 1 ev) b z' A' := by
 obtain ⟨kind, who, at_, vv, data⟩ := ev
 dsimp only at *
 subst hw
 subst hk
 have hx7 := hI.rx.expect
 obtain ⟨Av, kv, rfl, hkv, hBv, hrv⟩ := hv.form
 have hbn : byNum false ⟨c, [e0, e1], [n0, n1], link⟩ 1 ⟨2, 1, at_, vv, data⟩ = if n0.length < 30 then sayO ⟨c, [e0, e1].set 1 { e1 with tx := (txSend false c e1.tx e1.rx.expect).1 }, [n0, n1], link⟩ 1 (txSend false c e1.tx e1.rx.expect).2 else ⟨c, [e0, e1], [n0, n1], link⟩ := bynum_send rfl
 rw [hbn]
 clear hbn
 (refine spec_enterP [10, 11, 22, 23, 32, 33, 40, 41, 50, 51] Tryz.func97 ic97_ok fr97_ok Tryz.ntmps97 rfl ?_; simp only [seval, go_sem, ic97, fr97, zipL, vals])
 refine vsI.atR 10 rfl fun hE => ?_
 have hE := hE (by omega)
 refine gO ?_
 ((first | refine ⟨⟨by omega, hE⟩, ?_⟩ | refine ⟨hE, ?_⟩); (try simp only [seval, go_sem]))
 refine gO ?_
 simp only [wr11]
 (refine callT.give 90 0 2001 rfl rfl (fun bb => ?_)); simp only [seval, go_sem, giveSt, subV, subC, subE, subL]
 refine wD ?_
 refine tT ?_; refine callW 91 (room0 bb c link e0 e1 n0 n1 m z (by omega)) rfl rfl rfl rfl ?_; rintro v2 z2 A2 hz2 ⟨rfl, rfl, rfl⟩; (try simp only [seval, go_sem])
 (refine vsI.tf (Tf.open' 91 [92, 10, 11, 22, 23, 32, 33, 40, 41, 50, 51] rfl rfl rfl) ?_); simp only [seval, go_sem, zipL]
 (refine vsI.take' [0] 92 0 2001 rfl rfl rfl ?_); simp only [seval, go_sem, takeSt', unAt, unV, vals]; refine gO ?_
 by_cases h30 : n0.length < 30
 ·rw [if_pos h30]
  simp only [decide_eq_true h30]
  refine gO ?_
  (with_reducible refine joinV.id ?_; simp only [seval, go_sem])
  have hfr := fun f => @txSend_frm false c e1.tx e1.rx.expect f hI.tx hI.low hx7
  have hc := txsend_i c e1.tx e1.rx.expect _ _ z hI.tx hI.low hR.e1.fl hR.e1.qu hx7
  generalize txSend false c e1.tx e1.rx.expect = tp at hc hfr ⊢
  obtain ⟨⟨next, acked, fl, sent, qu, asks, tries, held, count, dead⟩, o⟩ := tp
  dsimp only at hc hfr ⊢
  repeat' (first | (refine And.intro ?_ ?_ <;> (try simp only [seval, go_sem])) | (refine ldF.one _ (RdS.cell 10 rfl rfl) ?_; refine gO ?_) | (refine ldF.agg (sz := 10) (txL e1 m.m1) rfl (RdS.part 10 rfl (fun i u hu => ends_sub (l1 := (endsC e0 e1 m.m0 m.m1).take (28 * 1)) (l3 := (endsC e0 e1 m.m0 m.m1).drop (28 * 1 + 10)) rfl rfl hu)) ?_; refine gO ?_))
  all_goals refine tT ?_; refine callP (hc) rfl rfl ?_; rintro u z1 hz1 ⟨xA, xn, fA, fC, qA, qC, rfl, hf1, hq1, hx1⟩; refine gO ?_
  all_goals have hR1 : WldB z1 e0 e1 n0 n1 m := hR.mono hz1
  all_goals (refine stoV_row 10 rfl rfl rfl rfl rfl rfl rfl (by rw [endsC_len]; simp) ?_; simp only [seval, go_sem, ends_tx1]; refine gO ?_)
  all_goals have hR2 : WldB z1 e0 { e1 with tx := ⟨next, acked, fl, sent, qu, asks, tries, held, count, dead⟩ } n0 n1 { m with m1 := { m.m1 with fA := fA, fC := fC, qA := qA, qC := qC } } := ⟨hR1.e0, { hR1.e1 with fl := hf1, qu := hq1 }, hR.n0, hR.n1⟩
  all_goals (refine callT.give 93 0 2003 rfl rfl (fun b3 => ?_)); simp only [seval, go_sem, giveSt, subV, subC, subE, subL]
  all_goals refine wC ?_
  all_goals refine tT ?_; refine callW 94 (sayif_p1 b3 c link e0 { e1 with tx := ⟨next, acked, fl, sent, qu, asks, tries, held, count, dead⟩ } n0 n1 { m with m1 := { m.m1 with fA := fA, fC := fC, qA := qA, qC := qC } } o _ z1 hR2 hx1 hfr h0 h1) rfl rfl rfl rfl ?_; rintro v3 z3 A3 hz3 ⟨f0, f1, g0, g1, m3, link3, hw3, rfl, hR3⟩; refine gO ?_
  all_goals refine wO ?_
  all_goals refine wF5 ?_
  all_goals exact ⟨f0, f1, g0, g1, m3, link3, hw3, rfl, hR3⟩
 ·rw [if_neg h30]
  simp only [decide_eq_false h30]
  refine gO ?_
  refine wF3 ?_
  exact WldQ.mk hR
theorem bynum_tick {g : Bool} {w : Wld} {who : Nat} {e : Evt} (hk : e.kind = 3) : byNum g w who e = sayO (setEnd w who { endAt w who with tx := (txTick w.cfg (endAt w who).tx (endAt w who).rx.expect (endAt w who).rx.busy).1 }) who (txTick w.cfg (endAt w who).tx (endAt w who).rx.expect (endAt w who).rx.busy).2 := by unfold byNum; rw [if_neg (by omega), if_neg (by omega), if_pos hk]
theorem num_tick0 (b : Nat) (c : Cfg) (link : Int) (e0 e1 : End) (n0 n1 : List Msg) (m : WM) (ev : Evt) (v : Value) (z : Zc) (hv : By z ev.data v) (hR : WldB z e0 e1 n0 n1 m) (hI : EndI c e0) (h0 : n0.length ≤ 30) (h1 : n1.length ≤ 30) (hw : ev.who = 0) (hk : ev.kind = 3) :
  Spec Tryz.prog 97 [.pointer (some ⟨b, 0, none⟩), vEvt ev v] z (wldP b c link e0 e1 n0 n1 m) fun _ z' A' => WldQ c (byNum false ⟨c, [e0, e1], [n0, n1], link⟩ 0 ev) b z' A' := by
 obtain ⟨kind, who, at_, vv, data⟩ := ev
 dsimp only at *
 subst hw
 subst hk
 have hx7 := hI.rx.expect
 obtain ⟨Av, kv, rfl, hkv, hBv, hrv⟩ := hv.form
 have hbn : byNum false ⟨c, [e0, e1], [n0, n1], link⟩ 0 ⟨3, 0, at_, vv, data⟩ = sayO ⟨c, [e0, e1].set 0 { e0 with tx := (txTick c e0.tx e0.rx.expect e0.rx.busy).1 }, [n0, n1], link⟩ 0 (txTick c e0.tx e0.rx.expect e0.rx.busy).2 := bynum_tick rfl
 rw [hbn]
 clear hbn
 have hfr := fun f => @txTick_frm c e0.tx e0.rx.expect e0.rx.busy f hx7
 have hal := @txTick_alike c e0.tx e0.rx.expect e0.rx.busy
 have hc := txtick_i c e0.tx e0.rx.expect e0.rx.busy _ _ z hI.tx hR.e0.fl hR.e0.qu hx7
 have hnil : ((txTick c e0.tx e0.rx.expect e0.rx.busy).2.getD frm0).data = [] := by unfold txTick; split; rfl; split <;> rfl
 generalize txTick c e0.tx e0.rx.expect e0.rx.busy = tp at hc hfr hal hnil ⊢
 obtain ⟨⟨next, acked, fl, sent, qu, asks, tries, held, count, dead⟩, o⟩ := tp
 dsimp only at hc hfr hal hnil ⊢
 have hxd : ∀ z1, By z1 (o.getD frm0).data (.slice none 0 0) := fun z1 => by rw [hnil]; exact Sl.nil _ _ _
 obtain ⟨-, rfl, rfl⟩ := hal
 (refine spec_enterP [10, 11, 22, 23, 32, 33, 40, 41, 50, 51] Tryz.func97 ic97_ok fr97_ok Tryz.ntmps97 rfl ?_; simp only [seval, go_sem, ic97, fr97, zipL, vals])
 refine vsI.atR 10 rfl fun hE => ?_
 have hE := hE (by omega)
 refine gO ?_
 ((first | refine ⟨⟨by omega, hE⟩, ?_⟩ | refine ⟨hE, ?_⟩); (try simp only [seval, go_sem]))
 refine gO ?_
 (with_reducible refine joinV.id ?_; simp only [seval, go_sem])
 repeat' (first | (refine And.intro ?_ ?_ <;> (try simp only [seval, go_sem])) | (refine ldF.one _ (RdS.cell 10 rfl rfl) ?_; refine gO ?_) | (refine ldF.agg (sz := 10) (txL e0 m.m0) rfl (RdS.part 10 rfl (fun i u hu => ends_sub (l1 := (endsC e0 e1 m.m0 m.m1).take (28 * 0)) (l3 := (endsC e0 e1 m.m0 m.m1).drop (28 * 0 + 10)) rfl rfl hu)) ?_; refine gO ?_))
 all_goals refine tT ?_; refine callP (hc) rfl rfl ?_; rintro u z1 hz1 ⟨fA, fC, qA, qC, rfl, hf1, hq1⟩; refine gO ?_
 all_goals have hR1 : WldB z1 e0 e1 n0 n1 m := hR.mono hz1
 all_goals (refine stoV_row 10 rfl rfl rfl rfl rfl rfl rfl (by rw [endsC_len]; simp) ?_; simp only [seval, go_sem, ends_tx0]; refine gO ?_)
 all_goals have hR2 : WldB z1 { e0 with tx := ⟨next, acked, e0.tx.flight, sent, e0.tx.queue, asks, tries, held, count, dead⟩ } e1 n0 n1 { m with m0 := { m.m0 with fA := fA, fC := fC, qA := qA, qC := qC } } := ⟨{ hR1.e0 with fl := hf1, qu := hq1 }, hR1.e1, hR.n0, hR.n1⟩
 all_goals (refine callT.give 93 0 2003 rfl rfl (fun b3 => ?_)); simp only [seval, go_sem, giveSt, subV, subC, subE, subL]
 all_goals refine wC ?_
 all_goals refine tT ?_; refine callW 94 (sayif_p0 b3 c link { e0 with tx := ⟨next, acked, e0.tx.flight, sent, e0.tx.queue, asks, tries, held, count, dead⟩ } e1 n0 n1 { m with m0 := { m.m0 with fA := fA, fC := fC, qA := qA, qC := qC } } o _ z1 hR2 (hxd z1) hfr h0 h1) rfl rfl rfl rfl ?_; rintro v3 z3 A3 hz3 ⟨f0, f1, g0, g1, m3, link3, hw3, rfl, hR3⟩; refine gO ?_
 all_goals refine wO ?_
 all_goals refine wF5 ?_
 all_goals exact ⟨f0, f1, g0, g1, m3, link3, hw3, rfl, hR3⟩
theorem num_tick1 (b : Nat) (c : Cfg) (link : Int) (e0 e1 : End) (n0 n1 : List Msg) (m : WM) (ev : Evt) (v : Value) (z : Zc) (hv : By z ev.data v) (hR : WldB z e0 e1 n0 n1 m) (hI : EndI c e1) (h0 : n0.length ≤ 30) (h1 : n1.length ≤ 30) (hw : ev.who = 1) (hk : ev.kind = 3) :
  Spec Tryz.prog 97 [.pointer (some ⟨b, 0, none⟩), vEvt ev v] z (wldP b c link e0 e1 n0 n1 m) fun _ z' A' => WldQ c (byNum false ⟨c, [e0, e1], [n0, n1], link⟩ 1 ev) b z' A' := by
 obtain ⟨kind, who, at_, vv, data⟩ := ev
 dsimp only at *
 subst hw
 subst hk
 have hx7 := hI.rx.expect
 obtain ⟨Av, kv, rfl, hkv, hBv, hrv⟩ := hv.form
 have hbn : byNum false ⟨c, [e0, e1], [n0, n1], link⟩ 1 ⟨3, 1, at_, vv, data⟩ = sayO ⟨c, [e0, e1].set 1 { e1 with tx := (txTick c e1.tx e1.rx.expect e1.rx.busy).1 }, [n0, n1], link⟩ 1 (txTick c e1.tx e1.rx.expect e1.rx.busy).2 := bynum_tick rfl
 rw [hbn]
 clear hbn
 have hfr := fun f => @txTick_frm c e1.tx e1.rx.expect e1.rx.busy f hx7
 have hal := @txTick_alike c e1.tx e1.rx.expect e1.rx.busy
 have hc := txtick_i c e1.tx e1.rx.expect e1.rx.busy _ _ z hI.tx hR.e1.fl hR.e1.qu hx7
 have hnil : ((txTick c e1.tx e1.rx.expect e1.rx.busy).2.getD frm0).data = [] := by unfold txTick; split; rfl; split <;> rfl
 generalize txTick c e1.tx e1.rx.expect e1.rx.busy = tp at hc hfr hal hnil ⊢
 obtain ⟨⟨next, acked, fl, sent, qu, asks, tries, held, count, dead⟩, o⟩ := tp
 dsimp only at hc hfr hal hnil ⊢
 have hxd : ∀ z1, By z1 (o.getD frm0).data (.slice none 0 0) := fun z1 => by rw [hnil]; exact Sl.nil _ _ _
 obtain ⟨-, rfl, rfl⟩ := hal
 (refine spec_enterP [10, 11, 22, 23, 32, 33, 40, 41, 50, 51] Tryz.func97 ic97_ok fr97_ok Tryz.ntmps97 rfl ?_; simp only [seval, go_sem, ic97, fr97, zipL, vals])
 refine vsI.atR 10 rfl fun hE => ?_
 have hE := hE (by omega)
 refine gO ?_
 ((first | refine ⟨⟨by omega, hE⟩, ?_⟩ | refine ⟨hE, ?_⟩); (try simp only [seval, go_sem]))
 refine gO ?_
 (with_reducible refine joinV.id ?_; simp only [seval, go_sem])
 repeat' (first | (refine And.intro ?_ ?_ <;> (try simp only [seval, go_sem])) | (refine ldF.one _ (RdS.cell 10 rfl rfl) ?_; refine gO ?_) | (refine ldF.agg (sz := 10) (txL e1 m.m1) rfl (RdS.part 10 rfl (fun i u hu => ends_sub (l1 := (endsC e0 e1 m.m0 m.m1).take (28 * 1)) (l3 := (endsC e0 e1 m.m0 m.m1).drop (28 * 1 + 10)) rfl rfl hu)) ?_; refine gO ?_))
 all_goals refine tT ?_; refine callP (hc) rfl rfl ?_; rintro u z1 hz1 ⟨fA, fC, qA, qC, rfl, hf1, hq1⟩; refine gO ?_
 all_goals have hR1 : WldB z1 e0 e1 n0 n1 m := hR.mono hz1
 all_goals (refine stoV_row 10 rfl rfl rfl rfl rfl rfl rfl (by rw [endsC_len]; simp) ?_; simp only [seval, go_sem, ends_tx1]; refine gO ?_)
 all_goals have hR2 : WldB z1 e0 { e1 with tx := ⟨next, acked, e1.tx.flight, sent, e1.tx.queue, asks, tries, held, count, dead⟩ } n0 n1 { m with m1 := { m.m1 with fA := fA, fC := fC, qA := qA, qC := qC } } := ⟨hR1.e0, { hR1.e1 with fl := hf1, qu := hq1 }, hR.n0, hR.n1⟩
 all_goals (refine callT.give 93 0 2003 rfl rfl (fun b3 => ?_)); simp only [seval, go_sem, giveSt, subV, subC, subE, subL]
 all_goals refine wC ?_
 all_goals refine tT ?_; refine callW 94 (sayif_p1 b3 c link e0 { e1 with tx := ⟨next, acked, e1.tx.flight, sent, e1.tx.queue, asks, tries, held, count, dead⟩ } n0 n1 { m with m1 := { m.m1 with fA := fA, fC := fC, qA := qA, qC := qC } } o _ z1 hR2 (hxd z1) hfr h0 h1) rfl rfl rfl rfl ?_; rintro v3 z3 A3 hz3 ⟨f0, f1, g0, g1, m3, link3, hw3, rfl, hR3⟩; refine gO ?_
 all_goals refine wO ?_
 all_goals refine wF5 ?_
 all_goals exact ⟨f0, f1, g0, g1, m3, link3, hw3, rfl, hR3⟩
abbrev rxL (e : End) (m : EndM) : List Value := [.int .i64 e.rx.expect, .int .i64 e.rx.count, .int .i64 e.rx.join.len, .slice m.jA e.rx.join.got.length m.jC, .bool e.rx.again, .bool e.rx.busy, .bool e.rx.dead]
theorem bynum_busy {g : Bool} {w : Wld} {who : Nat} {e : Evt} (hk : e.kind = 4) : byNum g w who e = says (setEnd w who { endAt w who with rx := (rxBusy (endAt w who).rx (decide (e.v = 1))).1 }) who (rxBusy (endAt w who).rx (decide (e.v = 1))).2 := by unfold byNum; rw [if_neg (by omega), if_neg (by omega), if_neg (by omega), if_pos hk]
theorem num_busy0 (b : Nat) (c : Cfg) (link : Int) (e0 e1 : End) (n0 n1 : List Msg) (m : WM) (ev : Evt) (v : Value) (z : Zc) (hv : By z ev.data v) (hR : WldB z e0 e1 n0 n1 m) (hI : EndI c e0) (h0 : n0.length ≤ 30) (h1 : n1.length ≤ 30) (hw : ev.who = 0) (hk : ev.kind = 4) :
  Spec Tryz.prog 97 [.pointer (some ⟨b, 0, none⟩), vEvt ev v] z (wldP b c link e0 e1 n0 n1 m) fun _ z' A' => WldQ c (byNum false ⟨c, [e0, e1], [n0, n1], link⟩ 0 ev) b z' A' := by
 obtain ⟨kind, who, at_, vv, data⟩ := ev
 dsimp only at *
 subst hw
 subst hk
 obtain ⟨Av, kv, rfl, hkv, hBv, hrv⟩ := hv.form
 have hbn : byNum false ⟨c, [e0, e1], [n0, n1], link⟩ 0 ⟨4, 0, at_, vv, data⟩ = says ⟨c, [e0, e1].set 0 { e0 with rx := (rxBusy e0.rx (decide (vv = 1))).1 }, [n0, n1], link⟩ 0 (rxBusy e0.rx (decide (vv = 1))).2 := bynum_busy rfl
 rw [hbn]
 clear hbn
 have hvb : (vv == 1) = decide (vv = 1) := by rw [Bool.eq_iff_iff]; simp
 have hc := rxbusy_i e0.rx (decide (vv = 1)) _ z hI.rx hR.e0.jo
 have hfr := @rxBusy_frm e0.rx (decide (vv = 1)) hI.rx
 have hln := @rxBusy_len e0.rx (decide (vv = 1))
 generalize rxBusy e0.rx (decide (vv = 1)) = tp at hc hfr hln ⊢
 obtain ⟨⟨expect, count, ⟨len, got⟩, again, busy, dead⟩, l⟩ := tp
 dsimp only at hc hfr hln ⊢
 (refine spec_enterP [10, 11, 22, 23, 32, 33, 40, 41, 50, 51] Tryz.func97 ic97_ok fr97_ok Tryz.ntmps97 rfl ?_; simp only [seval, go_sem, ic97, fr97, zipL, vals])
 refine vsI.atR 10 rfl fun hE => ?_
 have hE := hE (by omega)
 refine gO ?_
 ((first | refine ⟨⟨by omega, hE⟩, ?_⟩ | refine ⟨hE, ?_⟩); (try simp only [seval, go_sem]))
 refine gO ?_
 (with_reducible refine joinV.id ?_; simp only [seval, go_sem])
 simp only [hvb]
 repeat' (first | (refine And.intro ?_ ?_ <;> (try simp only [seval, go_sem])) | (refine ldF.agg (sz := 7) (rxL e0 m.m0) rfl (RdS.part 10 rfl (fun i u hu => ends_sub (l1 := (endsC e0 e1 m.m0 m.m1).take (28 * 0 + 10)) (l3 := (endsC e0 e1 m.m0 m.m1).drop (28 * 0 + 17)) rfl rfl hu)) ?_; refine gO ?_))
 all_goals refine tT ?_; refine callP (hc) rfl rfl ?_; rintro u z1 hz1 ⟨A3, k3, D3, m3, d3, rfl, h3, h4⟩; refine gO ?_
 all_goals have hR1 : WldB z1 e0 e1 n0 n1 m := hR.mono hz1
 all_goals (refine stoV_row 10 rfl rfl rfl rfl rfl rfl rfl (by rw [endsC_len]; simp) ?_; simp only [seval, go_sem, ends_rx0]; refine gO ?_)
 all_goals have hR2 : WldB z1 { e0 with rx := ⟨expect, count, ⟨len, got⟩, again, busy, dead⟩ } e1 n0 n1 { m with m0 := { m.m0 with jA := A3, jC := k3 } } := ⟨{ hR1.e0 with jo := h3 }, hR1.e1, hR.n0, hR.n1⟩
 all_goals (refine callT.give 93 0 2003 rfl rfl (fun b3 => ?_)); simp only [seval, go_sem, giveSt, subV, subC, subE, subL]
 all_goals refine wC ?_
 all_goals refine tT ?_; refine callW 94 (say_p0 b3 c link { e0 with rx := ⟨expect, count, ⟨len, got⟩, again, busy, dead⟩ } e1 n0 n1 { m with m0 := { m.m0 with jA := A3, jC := k3 } } l (.slice D3 m3 d3) z1 hR2 h4 (by omega) hfr h0 h1) rfl rfl rfl rfl ?_; rintro v3 z3 A3 hz3 ⟨f0, f1, g0, g1, m4, link3, hw3, rfl, hR3⟩; refine gO ?_
 all_goals refine wO ?_
 all_goals refine wF5 ?_
 all_goals exact ⟨f0, f1, g0, g1, m4, link3, hw3, rfl, hR3⟩
theorem num_busy1 (b : Nat) (c : Cfg) (link : Int) (e0 e1 : End) (n0 n1 : List Msg) (m : WM) (ev : Evt) (v : Value) (z : Zc) (hv : By z ev.data v) (hR : WldB z e0 e1 n0 n1 m) (hI : EndI c e1) (h0 : n0.length ≤ 30) (h1 : n1.length ≤ 30) (hw : ev.who = 1) (hk : ev.kind = 4) :
  Spec Tryz.prog 97 [.pointer (some ⟨b, 0, none⟩), vEvt ev v] z (wldP b c link e0 e1 n0 n1 m) fun _ z' A' => WldQ c (byNum false ⟨c, [e0, e1], [n0, n1], link⟩ 1 ev) b z' A' := by
 obtain ⟨kind, who, at_, vv, data⟩ := ev
 dsimp only at *
 subst hw
 subst hk
 obtain ⟨Av, kv, rfl, hkv, hBv, hrv⟩ := hv.form
 have hbn : byNum false ⟨c, [e0, e1], [n0, n1], link⟩ 1 ⟨4, 1, at_, vv, data⟩ = says ⟨c, [e0, e1].set 1 { e1 with rx := (rxBusy e1.rx (decide (vv = 1))).1 }, [n0, n1], link⟩ 1 (rxBusy e1.rx (decide (vv = 1))).2 := bynum_busy rfl
 rw [hbn]
 clear hbn
 have hvb : (vv == 1) = decide (vv = 1) := by rw [Bool.eq_iff_iff]; simp
 have hc := rxbusy_i e1.rx (decide (vv = 1)) _ z hI.rx hR.e1.jo
 have hfr := @rxBusy_frm e1.rx (decide (vv = 1)) hI.rx
 have hln := @rxBusy_len e1.rx (decide (vv = 1))
 generalize rxBusy e1.rx (decide (vv = 1)) = tp at hc hfr hln ⊢
 obtain ⟨⟨expect, count, ⟨len, got⟩, again, busy, dead⟩, l⟩ := tp
 dsimp only at hc hfr hln ⊢
 (refine spec_enterP [10, 11, 22, 23, 32, 33, 40, 41, 50, 51] Tryz.func97 ic97_ok fr97_ok Tryz.ntmps97 rfl ?_; simp only [seval, go_sem, ic97, fr97, zipL, vals])
 refine vsI.atR 10 rfl fun hE => ?_
 have hE := hE (by omega)
 refine gO ?_
 ((first | refine ⟨⟨by omega, hE⟩, ?_⟩ | refine ⟨hE, ?_⟩); (try simp only [seval, go_sem]))
 refine gO ?_
 (with_reducible refine joinV.id ?_; simp only [seval, go_sem])
 simp only [hvb]
 repeat' (first | (refine And.intro ?_ ?_ <;> (try simp only [seval, go_sem])) | (refine ldF.agg (sz := 7) (rxL e1 m.m1) rfl (RdS.part 10 rfl (fun i u hu => ends_sub (l1 := (endsC e0 e1 m.m0 m.m1).take (28 * 1 + 10)) (l3 := (endsC e0 e1 m.m0 m.m1).drop (28 * 1 + 17)) rfl rfl hu)) ?_; refine gO ?_))
 all_goals refine tT ?_; refine callP (hc) rfl rfl ?_; rintro u z1 hz1 ⟨A3, k3, D3, m3, d3, rfl, h3, h4⟩; refine gO ?_
 all_goals have hR1 : WldB z1 e0 e1 n0 n1 m := hR.mono hz1
 all_goals (refine stoV_row 10 rfl rfl rfl rfl rfl rfl rfl (by rw [endsC_len]; simp) ?_; simp only [seval, go_sem, ends_rx1]; refine gO ?_)
 all_goals have hR2 : WldB z1 e0 { e1 with rx := ⟨expect, count, ⟨len, got⟩, again, busy, dead⟩ } n0 n1 { m with m1 := { m.m1 with jA := A3, jC := k3 } } := ⟨hR1.e0, { hR1.e1 with jo := h3 }, hR.n0, hR.n1⟩
 all_goals (refine callT.give 93 0 2003 rfl rfl (fun b3 => ?_)); simp only [seval, go_sem, giveSt, subV, subC, subE, subL]
 all_goals refine wC ?_
 all_goals refine tT ?_; refine callW 94 (say_p1 b3 c link e0 { e1 with rx := ⟨expect, count, ⟨len, got⟩, again, busy, dead⟩ } n0 n1 { m with m1 := { m.m1 with jA := A3, jC := k3 } } l (.slice D3 m3 d3) z1 hR2 h4 (by omega) hfr h0 h1) rfl rfl rfl rfl ?_; rintro v3 z3 A3 hz3 ⟨f0, f1, g0, g1, m4, link3, hw3, rfl, hR3⟩; refine gO ?_
 all_goals refine wO ?_
 all_goals refine wF5 ?_
 all_goals exact ⟨f0, f1, g0, g1, m4, link3, hw3, rfl, hR3⟩
theorem bynum_none {g : Bool} {w : Wld} {who : Nat} {e : Evt} (hk : e.kind = 6) : byNum g w who e = w := by unfold byNum; rw [if_neg (by omega), if_neg (by omega), if_neg (by omega), if_neg (by omega), if_neg (by omega)]
theorem num_none0 (b : Nat) (c : Cfg) (link : Int) (e0 e1 : End) (n0 n1 : List Msg) (m : WM) (ev : Evt) (v : Value) (z : Zc) (hv : By z ev.data v) (hR : WldB z e0 e1 n0 n1 m) (hw : ev.who = 0) (hk : ev.kind = 6) :
  Spec Tryz.prog 97 [.pointer (some ⟨b, 0, none⟩), vEvt ev v] z (wldP b c link e0 e1 n0 n1 m) fun _ z' A' => WldQ c (byNum false ⟨c, [e0, e1], [n0, n1], link⟩ 0 ev) b z' A' := by
 rw [bynum_none hk]
 obtain ⟨kind, who, at_, vv, data⟩ := ev
 dsimp only at *
 subst hw
 subst hk
 obtain ⟨Av, kv, rfl, hkv, hBv, hrv⟩ := hv.form
 (refine spec_enterP [10, 11, 22, 23, 32, 33, 40, 41, 50, 51] Tryz.func97 ic97_ok fr97_ok Tryz.ntmps97 rfl ?_; simp only [seval, go_sem, ic97, fr97, zipL, vals])
 refine vsI.atR 10 rfl fun hE => ?_
 have hE := hE (by omega)
 refine gO ?_
 ((first | refine ⟨⟨by omega, hE⟩, ?_⟩ | refine ⟨hE, ?_⟩); (try simp only [seval, go_sem]))
 refine gO ?_
 refine wF3 ?_
 exact WldQ.mk hR
theorem num_none1 (b : Nat) (c : Cfg) (link : Int) (e0 e1 : End) (n0 n1 : List Msg) (m : WM) (ev : Evt) (v : Value) (z : Zc) (hv : By z ev.data v) (hR : WldB z e0 e1 n0 n1 m) (hw : ev.who = 1) (hk : ev.kind = 6) :
  Spec Tryz.prog 97 [.pointer (some ⟨b, 0, none⟩), vEvt ev v] z (wldP b c link e0 e1 n0 n1 m) fun _ z' A' => WldQ c (byNum false ⟨c, [e0, e1], [n0, n1], link⟩ 1 ev) b z' A' := by
 rw [bynum_none hk]
 obtain ⟨kind, who, at_, vv, data⟩ := ev
 dsimp only at *
 subst hw
 subst hk
 obtain ⟨Av, kv, rfl, hkv, hBv, hrv⟩ := hv.form
 (refine spec_enterP [10, 11, 22, 23, 32, 33, 40, 41, 50, 51] Tryz.func97 ic97_ok fr97_ok Tryz.ntmps97 rfl ?_; simp only [seval, go_sem, ic97, fr97, zipL, vals])
 refine vsI.atR 10 rfl fun hE => ?_
 have hE := hE (by omega)
 refine gO ?_
 ((first | refine ⟨⟨by omega, hE⟩, ?_⟩ | refine ⟨hE, ?_⟩); (try simp only [seval, go_sem]))
 refine gO ?_
 refine wF3 ?_
 exact WldQ.mk hR
theorem bynum_ack {g : Bool} {w : Wld} {who : Nat} {e : Evt} (hk : e.kind = 5) : byNum g w who e = if (endAt w who).rx.dead = true then w else say1 w who (rxAck (endAt w who).rx) := by unfold byNum; rw [if_neg (by omega), if_neg (by omega), if_neg (by omega), if_neg (by omega), if_pos hk]
theorem num_ack0 (b : Nat) (c : Cfg) (link : Int) (e0 e1 : End) (n0 n1 : List Msg) (m : WM) (ev : Evt) (v : Value) (z : Zc) (hv : By z ev.data v) (hR : WldB z e0 e1 n0 n1 m) (hI : EndI c e0) (h0 : n0.length ≤ 30) (h1 : n1.length ≤ 30) (hw : ev.who = 0) (hk : ev.kind = 5) :
  Spec Tryz.prog 97 [.pointer (some ⟨b, 0, none⟩), vEvt ev v] z (wldP b c link e0 e1 n0 n1 m) fun _ z' A' => WldQ c (byNum false ⟨c, [e0, e1], [n0, n1], link⟩ 0 ev) b z' A' := by
 obtain ⟨kind, who, at_, vv, data⟩ := ev
 dsimp only at *
 subst hw
 subst hk
 obtain ⟨Av, kv, rfl, hkv, hBv, hrv⟩ := hv.form
 have hbn : byNum false ⟨c, [e0, e1], [n0, n1], link⟩ 0 ⟨5, 0, at_, vv, data⟩ = if e0.rx.dead = true then ⟨c, [e0, e1], [n0, n1], link⟩ else say1 ⟨c, [e0, e1], [n0, n1], link⟩ 0 (rxAck e0.rx) := bynum_ack rfl
 rw [hbn]
 clear hbn
 have hc := rxack_i e0.rx _ z hI.rx hR.e0.jo
 (refine spec_enterP [10, 11, 22, 23, 32, 33, 40, 41, 50, 51] Tryz.func97 ic97_ok fr97_ok Tryz.ntmps97 rfl ?_; simp only [seval, go_sem, ic97, fr97, zipL, vals])
 refine vsI.atR 10 rfl fun hE => ?_
 have hE := hE (by omega)
 refine gO ?_
 ((first | refine ⟨⟨by omega, hE⟩, ?_⟩ | refine ⟨hE, ?_⟩); (try simp only [seval, go_sem]))
 refine gO ?_
 (refine ldF.one _ (RdS.cell 10 rfl rfl) ?_; refine gO ?_)
 cases hd : e0.rx.dead
 ·rw [if_neg (by simp)]
  try simp only [hd]
  refine gO ?_
  try simp only [hd]
  refine ldF.agg (sz := 7) (rxL e0 m.m0) rfl (RdS.part 10 rfl (fun i u hu => ends_sub (l1 := (endsC e0 e1 m.m0 m.m1).take (28 * 0 + 10)) (l3 := (endsC e0 e1 m.m0 m.m1).drop (28 * 0 + 17)) rfl rfl hu)) ?_
  refine gO ?_
  refine tT ?_; refine callP (hc) rfl rfl ?_; rintro _ _ - ⟨rfl, rfl⟩; refine gO ?_
  (first | refine callT.frz 3 rfl rfl (fun b1 z1 hz1 hr1 => ?_) | refine callM.frz 3 rfl rfl (fun b1 z1 hz1 hr1 => ?_)); dsimp only at hz1; simp only [seval, go_sem, Go.Proofs.YtnkhjnieidlknaaGreat.frz, subV, subC, subE, subL]
  have hR1 : WldB z1 e0 e1 n0 n1 m := hR.mono hz1
  (refine callT.give 93 0 2003 rfl rfl (fun b3 => ?_)); simp only [seval, go_sem, giveSt, subV, subC, subE, subL]
  refine wC ?_
  refine tT ?_; refine callW 94 (say_p0 b3 c link e0 e1 n0 n1 m [rxAck e0.rx] (.slice (some ⟨b1, 0, none⟩) 1 1) z1 hR1 ⟨_, _, _, rfl, Nat.le_refl _, Els.single (d := fRep) ⟨_, rfl, Sl.nil _ _ _⟩, hr1⟩ (by simp) (fun g hg => by rw [List.mem_singleton.1 hg]; exact ⟨sayFrm_ok hI.rx.expect rfl (goWait_02 _), by simp [rxAck, sayFrm]⟩) h0 h1) rfl rfl rfl rfl ?_; rintro v3 z3 A3 hz3 ⟨f0, f1, g0, g1, m4, link3, hw3, rfl, hR3⟩; refine gO ?_
  refine wO ?_
  refine wF5 ?_
  exact ⟨f0, f1, g0, g1, m4, link3, hw3, rfl, hR3⟩
 ·rw [if_pos rfl]
  try simp only [hd]
  refine gO ?_
  refine wF3 ?_
  exact WldQ.mk hR
theorem num_ack1 (b : Nat) (c : Cfg) (link : Int) (e0 e1 : End) (n0 n1 : List Msg) (m : WM) (ev : Evt) (v : Value) (z : Zc) (hv : By z ev.data v) (hR : WldB z e0 e1 n0 n1 m) (hI : EndI c e1) (h0 : n0.length ≤ 30) (h1 : n1.length ≤ 30) (hw : ev.who = 1) (hk : ev.kind = 5) :
  Spec Tryz.prog 97 [.pointer (some ⟨b, 0, none⟩), vEvt ev v] z (wldP b c link e0 e1 n0 n1 m) fun _ z' A' => WldQ c (byNum false ⟨c, [e0, e1], [n0, n1], link⟩ 1 ev) b z' A' := by
 obtain ⟨kind, who, at_, vv, data⟩ := ev
 dsimp only at *
 subst hw
 subst hk
 obtain ⟨Av, kv, rfl, hkv, hBv, hrv⟩ := hv.form
 have hbn : byNum false ⟨c, [e0, e1], [n0, n1], link⟩ 1 ⟨5, 1, at_, vv, data⟩ = if e1.rx.dead = true then ⟨c, [e0, e1], [n0, n1], link⟩ else say1 ⟨c, [e0, e1], [n0, n1], link⟩ 1 (rxAck e1.rx) := bynum_ack rfl
 rw [hbn]
 clear hbn
 have hc := rxack_i e1.rx _ z hI.rx hR.e1.jo
 (refine spec_enterP [10, 11, 22, 23, 32, 33, 40, 41, 50, 51] Tryz.func97 ic97_ok fr97_ok Tryz.ntmps97 rfl ?_; simp only [seval, go_sem, ic97, fr97, zipL, vals])
 refine vsI.atR 10 rfl fun hE => ?_
 have hE := hE (by omega)
 refine gO ?_
 ((first | refine ⟨⟨by omega, hE⟩, ?_⟩ | refine ⟨hE, ?_⟩); (try simp only [seval, go_sem]))
 refine gO ?_
 (refine ldF.one _ (RdS.cell 10 rfl rfl) ?_; refine gO ?_)
 cases hd : e1.rx.dead
 ·rw [if_neg (by simp)]
  try simp only [hd]
  refine gO ?_
  try simp only [hd]
  refine ldF.agg (sz := 7) (rxL e1 m.m1) rfl (RdS.part 10 rfl (fun i u hu => ends_sub (l1 := (endsC e0 e1 m.m0 m.m1).take (28 * 1 + 10)) (l3 := (endsC e0 e1 m.m0 m.m1).drop (28 * 1 + 17)) rfl rfl hu)) ?_
  refine gO ?_
  refine tT ?_; refine callP (hc) rfl rfl ?_; rintro _ _ - ⟨rfl, rfl⟩; refine gO ?_
  (first | refine callT.frz 3 rfl rfl (fun b1 z1 hz1 hr1 => ?_) | refine callM.frz 3 rfl rfl (fun b1 z1 hz1 hr1 => ?_)); dsimp only at hz1; simp only [seval, go_sem, Go.Proofs.YtnkhjnieidlknaaGreat.frz, subV, subC, subE, subL]
  have hR1 : WldB z1 e0 e1 n0 n1 m := hR.mono hz1
  (refine callT.give 93 0 2003 rfl rfl (fun b3 => ?_)); simp only [seval, go_sem, giveSt, subV, subC, subE, subL]
  refine wC ?_
  refine tT ?_; refine callW 94 (say_p1 b3 c link e0 e1 n0 n1 m [rxAck e1.rx] (.slice (some ⟨b1, 0, none⟩) 1 1) z1 hR1 ⟨_, _, _, rfl, Nat.le_refl _, Els.single (d := fRep) ⟨_, rfl, Sl.nil _ _ _⟩, hr1⟩ (by simp) (fun g hg => by rw [List.mem_singleton.1 hg]; exact ⟨sayFrm_ok hI.rx.expect rfl (goWait_02 _), by simp [rxAck, sayFrm]⟩) h0 h1) rfl rfl rfl rfl ?_; rintro v3 z3 A3 hz3 ⟨f0, f1, g0, g1, m4, link3, hw3, rfl, hR3⟩; refine gO ?_
  refine wO ?_
  refine wF5 ?_
  exact ⟨f0, f1, g0, g1, m4, link3, hw3, rfl, hR3⟩
 ·rw [if_pos rfl]
  try simp only [hd]
  refine gO ?_
  refine wF3 ?_
  exact WldQ.mk hR
set_option maxHeartbeats 4000000
theorem opT.frzA {P : Program} {o : Oper} {s : St} {K : St → Prop} (k : Nat) {A : Asrt} {G : Zc → Prop} (hk : look k s.L = some (.own A)) (hA : RdA A G) (h : ∀ z', s.z ≤ z' → G z' → opT P o ⟨s.t, del k s.L, z', s.n⟩ K) : opT P o s K := fun C ρ a w Q hs => by
 obtain ⟨z', h1, h2, h3⟩ := hs.frzA hk hA
 refine Oper.wp_mono ?_ (h z' h1 h2 C ρ a w Q h3)
 rintro a' w' ⟨s', ρ', k1, k2, k3, k4⟩
 exact ⟨s', ρ', k1, k2, k3, Zc.trans' h1 k4⟩
theorem callT.frzA {P : Program} {f : FuncId} {args : List Operand} {d : Option Nat} {s : St} {K : St → Prop} (k : Nat) {A : Asrt} {G : Zc → Prop} (hk : look k s.L = some (.own A)) (hA : RdA A G) (h : ∀ z', s.z ≤ z' → G z' → callT P f args d ⟨s.t, del k s.L, z', s.n⟩ K) : callT P f args d s K := fun o h1 h2 => opT.frzA k hk hA fun z' g1 g2 => h z' g1 g2 o h1 h2
theorem FinV.frzA {fr : List FR} {s : St} {R : Value → Zc → Asrt → Prop} (k : Nat) {A : Asrt} {G : Zc → Prop} (hk : look k s.L = some (.own A)) (hA : RdA A G) (h : ∀ z', s.z ≤ z' → G z' → FinV fr ⟨s.t, del k s.L, z', s.n⟩ R) : FinV fr s R := fun C ρ a w hs => by
 obtain ⟨z', h1, h2, h3⟩ := hs.frzA hk hA
 exact h z' h1 h2 C ρ a w h3
theorem hear_no0 (b : Nat) (c : Cfg) (link : Int) (e0 e1 : End) (n0 n1 : List Msg) (msg : Msg) (rest : List Msg) (m : WM) (z : Zc) (hR : WldB z e0 e1 n0 n1 m) (h15 : msg.bytes.length ≤ 1000) (h30 : n0.length ≤ 1000) (hn : n0 = msg :: rest) (hE : IsAt m.E) (hN : IsAt m.N) (hA : IsAt m.n0.A) (hf : frmRead msg.bytes = none) :
  Spec Tryz.prog 95 [.pointer (some ⟨b, 0, none⟩), .int .i64 0] z (wldP b c link e0 e1 n0 n1 m) fun _ z' A' => WldQ c (setNet ⟨c, [e0, e1], [n0, n1], link⟩ 0 rest) b z' A' := by
 subst hn
 obtain ⟨E, EC, N, NC, m0, m1, ⟨A0, C0, ms0⟩, ⟨A1, C1, ms1⟩⟩ := m
 have hok := hR.n0.ok
 have hcap := hR.n0.cap
 dsimp only at hok hcap hE hN hA
 cases ms0 with
 | nil => exact hok.elim
 | cons x ms =>
 obtain ⟨a, cb⟩ := x
 obtain ⟨⟨hb1, hb2⟩, hok⟩ := hok
 have hvl := netV_len hok
 have hlr : (msg :: rest).length = rest.length + 1 := rfl
 have hnv : List.take (rest.length * 2) (List.drop 2 (netV (msg :: rest) ((a, cb) :: ms))) = netV rest ms := List.take_of_length_le (by show (netV rest ms).length ≤ _; omega)
 (refine spec_enterP [10, 11, 22, 23, 32, 33, 40, 41, 50, 51] Tryz.func95 ic95_ok fr95_ok Tryz.ntmps95 rfl ?_; simp only [seval, go_sem, ic95, fr95, zipL, vals])
 ((first | refine ⟨⟨by omega, hN⟩, ?_⟩ | refine ⟨hN, ?_⟩); (try simp only [seval, go_sem]))
 (refine ldF.one _ (RdS.cell 11 rfl rfl) ?_; refine gO ?_)
 refine ⟨⟨by simp, hA⟩, ?_⟩
 refine gO ?_
 (refine ldF.one _ (RdS.cell 40 rfl rfl) ?_; refine gO ?_)
 refine callT.tf (Tf.split 41 46 rfl rfl rfl) ?_
 dsimp only
 refine callT.frzA 46 rfl (RdA.bys hb1 hb2) (fun z4 hz4 hby => ?_)
 dsimp only at hz4
 simp only [seval, go_sem]
 have hc := frmRead_i msg.bytes _ z4 hby (by omega)
 simp only [hf] at hc
 refine tT ?_; refine callP (hc) rfl rfl ?_; rintro u z5 hz5 rfl; refine gO ?_
 ((first | refine ⟨⟨by omega, hN⟩, ?_⟩ | refine ⟨hN, ?_⟩); (try simp only [seval, go_sem]))
 (refine ldF.one _ (RdS.cell 11 rfl rfl) ?_; refine gO ?_)
 refine ⟨by omega, ?_⟩; refine gO ?_
 ((first | refine ⟨⟨by omega, hN⟩, ?_⟩ | refine ⟨hN, ?_⟩); (try simp only [seval, go_sem]))
 (refine stoV_row 11 rfl rfl rfl rfl rfl rfl rfl (by simp) ?_; simp only [seval, go_sem, putV]; refine gO ?_)
 refine gO ?_
 refine FinV.tf (Tf.cut 40 rfl rfl 1 (rest.length + 1) C0 (by omega) (by simp) hcap (by omega) (.inr (.inr hA))) ?_
 simp only [Nat.one_mul, Nat.add_sub_cancel, hnv]
 refine wF1 ?_
 exact ⟨e0, e1, rest, n1, ⟨E, EC, N, NC, m0, m1, ⟨cutA A0 C0 1 2, C0 - 1, ms⟩, ⟨A1, C1, ms1⟩⟩, link, rfl, rfl, ⟨hR.e0.mono (Zc.trans' hz4 hz5), hR.e1.mono (Zc.trans' hz4 hz5), ⟨hok, by show rest.length ≤ C0 - 1; rw [hlr] at hcap; omega⟩, hR.n1⟩⟩
theorem hear_no1 (b : Nat) (c : Cfg) (link : Int) (e0 e1 : End) (n0 n1 : List Msg) (msg : Msg) (rest : List Msg) (m : WM) (z : Zc) (hR : WldB z e0 e1 n0 n1 m) (h15 : msg.bytes.length ≤ 1000) (h30 : n1.length ≤ 1000) (hn : n1 = msg :: rest) (hE : IsAt m.E) (hN : IsAt m.N) (hA : IsAt m.n1.A) (hf : frmRead msg.bytes = none) :
  Spec Tryz.prog 95 [.pointer (some ⟨b, 0, none⟩), .int .i64 1] z (wldP b c link e0 e1 n0 n1 m) fun _ z' A' => WldQ c (setNet ⟨c, [e0, e1], [n0, n1], link⟩ 1 rest) b z' A' := by
 subst hn
 obtain ⟨E, EC, N, NC, m0, m1, ⟨A0, C0, ms0⟩, ⟨A1, C1, ms1⟩⟩ := m
 have hok := hR.n1.ok
 have hcap := hR.n1.cap
 dsimp only at hok hcap hE hN hA
 cases ms1 with
 | nil => exact hok.elim
 | cons x ms =>
 obtain ⟨a, cb⟩ := x
 obtain ⟨⟨hb1, hb2⟩, hok⟩ := hok
 have hvl := netV_len hok
 have hlr : (msg :: rest).length = rest.length + 1 := rfl
 have hnv : List.take (rest.length * 2) (List.drop 2 (netV (msg :: rest) ((a, cb) :: ms))) = netV rest ms := List.take_of_length_le (by show (netV rest ms).length ≤ _; omega)
 (refine spec_enterP [10, 11, 22, 23, 32, 33, 40, 41, 50, 51] Tryz.func95 ic95_ok fr95_ok Tryz.ntmps95 rfl ?_; simp only [seval, go_sem, ic95, fr95, zipL, vals])
 ((first | refine ⟨⟨by omega, hN⟩, ?_⟩ | refine ⟨hN, ?_⟩); (try simp only [seval, go_sem]))
 (refine ldF.one _ (RdS.cell 11 rfl rfl) ?_; refine gO ?_)
 refine ⟨⟨by simp, hA⟩, ?_⟩
 refine gO ?_
 (refine ldF.one _ (RdS.cell 50 rfl rfl) ?_; refine gO ?_)
 refine callT.tf (Tf.split 51 46 rfl rfl rfl) ?_
 dsimp only
 refine callT.frzA 46 rfl (RdA.bys hb1 hb2) (fun z4 hz4 hby => ?_)
 dsimp only at hz4
 simp only [seval, go_sem]
 have hc := frmRead_i msg.bytes _ z4 hby (by omega)
 simp only [hf] at hc
 refine tT ?_; refine callP (hc) rfl rfl ?_; rintro u z5 hz5 rfl; refine gO ?_
 ((first | refine ⟨⟨by omega, hN⟩, ?_⟩ | refine ⟨hN, ?_⟩); (try simp only [seval, go_sem]))
 (refine ldF.one _ (RdS.cell 11 rfl rfl) ?_; refine gO ?_)
 refine ⟨by omega, ?_⟩; refine gO ?_
 ((first | refine ⟨⟨by omega, hN⟩, ?_⟩ | refine ⟨hN, ?_⟩); (try simp only [seval, go_sem]))
 (refine stoV_row 11 rfl rfl rfl rfl rfl rfl rfl (by simp) ?_; simp only [seval, go_sem, putV]; refine gO ?_)
 refine gO ?_
 refine FinV.tf (Tf.cut 50 rfl rfl 1 (rest.length + 1) C1 (by omega) (by simp) hcap (by omega) (.inr (.inr hA))) ?_
 simp only [Nat.one_mul, Nat.add_sub_cancel, hnv]
 refine wF1 ?_
 exact ⟨e0, e1, n0, rest, ⟨E, EC, N, NC, m0, m1, ⟨A0, C0, ms0⟩, ⟨cutA A1 C1 1 2, C1 - 1, ms⟩⟩, link, rfl, rfl, ⟨hR.e0.mono (Zc.trans' hz4 hz5), hR.e1.mono (Zc.trans' hz4 hz5), hR.n0, ⟨hok, by show rest.length ≤ C1 - 1; rw [hlr] at hcap; omega⟩⟩⟩
theorem ends_gotV0 (e0 e1 : End) (m0 m1 : EndM) (l : List (List Int)) (n c : Nat) (A : Option Addr) (V : List Value) (h : n = l.length) : putV (endsC e0 e1 m0 m1) 27 [.slice A n c] = endsC { e0 with got := l } e1 { m0 with gA := A, gC := c, gV := V } m1 := by subst h; rfl
theorem ends_gotV1 (e0 e1 : End) (m0 m1 : EndM) (l : List (List Int)) (n c : Nat) (A : Option Addr) (V : List Value) (h : n = l.length) : putV (endsC e0 e1 m0 m1) 55 [.slice A n c] = endsC e0 { e1 with got := l } m0 { m1 with gA := A, gC := c, gV := V } := by subst h; rfl
end Go.Proofs.YtnkhjnieidlknaaGreat
