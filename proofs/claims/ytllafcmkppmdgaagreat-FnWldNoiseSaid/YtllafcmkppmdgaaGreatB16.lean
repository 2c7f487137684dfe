/- Who sends by numbers, by the program: what is ok, copies, what it takes. · Who sends by numbers, by the program: a piece is sent. · Who sends by numbers, by the program: a frame is heard. · Who hears by numbers, by the program. · Clones of bytes that are one's own. · Codes of functions, group ImpW. · Two ends over a link, as the program holds them. · Codes of functions, group ImpR. -/
import Derived.Test.YtllafcmkppmdgaaGreatB15
import Derived.Test.YtllafcmkppmdgaaGreatB8
import Derived.Test.YtllafcmkppmdgaaGreatB10
import Derived.Test.YtllafcmkppmdgaaGreatB14
import Derived.Test.YtllafcmkppmdgaaGreatB6
import Derived.Test.YtllafcmkppmdgaaGreatB9
import Derived.Test.YtllafcmkppmdgaaGreatB12
import Derived.Test.YtllafcmkppmdgaaGreatProg
namespace Go.Proofs.YtllafcmkppmdgaaGreat
open Go.RowKit
set_option linter.unusedVariables false
set_option linter.unusedSimpArgs false
set_option maxRecDepth 100000
set_option maxHeartbeats 1000000
theorem TxI.flSmall {c : Cfg} {t : Tx} (h : TxI c t) : ∀ p ∈ t.flight, p.data.length ≤ 8 := fun p hp => by have := (h.fl p hp).2; have := h.cfg.mps; omega
theorem TxI.quSmall {c : Cfg} {t : Tx} (h : TxI c t) : ∀ p ∈ t.queue, p.data.length ≤ 8 := fun p hp => by have := (h.qu p hp).2; have := h.cfg.mps; omega
theorem txok_i (c : Cfg) (t : Tx) (f q : Value) (z : Zc) (hI : TxI c t) (hf : Sl pRep z t.flight f) (hq : Sl pRep z t.queue q) : PSpec Tryz.prog 39 [vCfg c, vTx t f q] z fun u z' => u = .bool true := by
 obtain ⟨A, k, cs, rfl, hk, he, hr⟩ := hf
 obtain ⟨B, k2, cs2, rfl, hk2, he2, hr2⟩ := hq
 have hw := hI.win
 have hcw := hI.cfg.win
 have hac := hI.acked
 have hnx := hI.next
 have hq24 := hI.queue
 have hcn := hI.count
 have d1 : decide ((t.flight.length : Int) ≤ c.win) = true := decide_eq_true hw
 have d2 : decide ((t.queue.length : Int) ≤ 24) = true := decide_eq_true (by omega)
 have p1 : partsOk c t.flight = true := partsOk_iff.2 hI.fl
 have p2 : partsOk c t.queue = true := partsOk_iff.2 hI.qu
 refine eP k39 ?_
 refine gO ?_
 refine tT ?_; refine callP (cfgok_i c z) rfl rfl ?_; rintro _ _ - ⟨rfl, rfl⟩; refine gO ?_
 simp only [cfgOk_iff.2 hI.cfg]
 refine gO ?_
 refine tT ?_; refine callP (isnum t.acked z) rfl rfl ?_; rintro _ _ - ⟨rfl, rfl⟩; refine gO ?_
 simp only [isNum_iff.2 hac]
 refine gO ?_
 refine tT ?_; refine callP (isnum t.next z) rfl rfl ?_; rintro _ _ - ⟨rfl, rfl⟩; refine gO ?_
 simp only [isNum_iff.2 hnx]
 refine gO ?_
 refine tT ?_; refine callP (far_i t.acked t.next z (by omega) (by omega) (by omega)) rfl rfl ?_; rintro _ _ - ⟨rfl, rfl⟩; refine gO ?_
 try simp only [hI.far]
 simp only [seval, go_sem, beq_self_eq_true, d1]
 refine gO ?_
 refine tT ?_; refine callP (in_i t.sent 0 (t.flight.length : Int) z) rfl rfl ?_; rintro _ _ - ⟨rfl, rfl⟩; refine gO ?_
 simp only [inB_iff.2 hI.sent]
 simp only [seval, go_sem, d2]
 refine gO ?_
 refine tT ?_; refine callP (in_i t.tries 0 c.tri z) rfl rfl ?_; rintro _ _ - ⟨rfl, rfl⟩; refine gO ?_
 simp only [inB_iff.2 hI.tries]
 refine gO ?_
 refine tT ?_; refine callP (in_i t.count 0 9999 z) rfl rfl ?_; rintro _ _ - ⟨rfl, rfl⟩; refine gO ?_
 simp only [inB_iff.2 hcn]
 refine gO ?_
 refine tT ?_; refine callP (numof_i t.count z (by omega)) rfl rfl ?_; rintro _ _ - ⟨rfl, rfl⟩; refine gO ?_
 simp only [seval, go_sem, hI.num, beq_self_eq_true]
 refine gO ?_
 refine tT ?_; refine callP (partsok_i c t.flight _ z ⟨A, k, cs, rfl, hk, he, hr⟩ (by omega) (fun p hp => by have := hI.flSmall p hp; omega)) rfl rfl ?_; rintro u z1 hz1 rfl; refine gO ?_
 simp only [p1]
 refine gO ?_
 refine tT ?_; refine callP (partsok_i c t.queue _ z1 ⟨B, k2, cs2, rfl, hk2, he2.mono hz1, hr2.mono hz1⟩ (by omega) (fun p hp => by have := hI.quSmall p hp; omega)) rfl rfl ?_; rintro u z2 hz2 rfl; refine gO ?_
 simp only [p2]
 (first|refine fN ?_|exact fZ)
theorem txcopy_i (t : Tx) (f q : Value) (z : Zc) (hf : Sl pRep z t.flight f) (hq : Sl pRep z t.queue q) (hl : t.flight.length ≤ 1000000) (hl2 : t.queue.length ≤ 1000000) (hp : ∀ p ∈ t.flight, p.data.length ≤ 1000000000) (hp2 : ∀ p ∈ t.queue, p.data.length ≤ 1000000000) :
  PSpec Tryz.prog 99 [vTx t f q] z fun u z' => ∃ A B, u = vTx t (.slice A t.flight.length t.flight.length) (.slice B t.queue.length t.queue.length) ∧ Sl pRep z' t.flight (.slice A t.flight.length t.flight.length) ∧ Sl pRep z' t.queue (.slice B t.queue.length t.queue.length) := by
 obtain ⟨A, k, cs, rfl, hk, he, hr⟩ := hf
 obtain ⟨B, k2, cs2, rfl, hk2, he2, hr2⟩ := hq
 refine eP k99 ?_
 refine gO ?_
 refine tT ?_; refine callP (copyparts_i t.flight _ z ⟨A, k, cs, rfl, hk, he, hr⟩ hl hp) rfl rfl ?_; rintro u z1 hz1 ⟨A2, rfl, hs⟩; refine gO ?_
 refine tT ?_; refine callP (copyparts_i t.queue _ z1 ⟨B, k2, cs2, rfl, hk2, he2.mono hz1, hr2.mono hz1⟩ hl2 hp2) rfl rfl ?_; rintro u z2 hz2 ⟨A3, rfl, hs3⟩; refine gO ?_
 (first|refine fN ?_|exact fZ)
 exact ⟨_, _, rfl, hs.mono hz2, hs3⟩
def TxV (z : Zc) (t : Tx) (v : Value) : Prop := ∃ A a B b, v = vTx t (.slice A t.flight.length a) (.slice B t.queue.length b) ∧ Sl pRep z t.flight (.slice A t.flight.length a) ∧ Sl pRep z t.queue (.slice B t.queue.length b)
theorem TxV.mono {z z' : Zc} {t : Tx} {v : Value} (hz : z ≤ z') (h : TxV z t v) : TxV z' t v := by
 obtain ⟨A, a, B, b, h1, h2, h3⟩ := h
 exact ⟨A, a, B, b, h1, h2.mono hz, h3.mono hz⟩
theorem txput_i (c : Cfg) (t : Tx) (sdu : List Int) (f q v : Value) (z : Zc) (hI : TxI c t) (hf : Sl pRep z t.flight f) (hq : Sl pRep z t.queue q) (hv : By z sdu v) (hs : sdu.length ≤ 100000) :
  PSpec Tryz.prog 138 [vCfg c, vTx t f q, v] z fun u z' => ∃ A a B b, u = .tuple #[vTx (txPut c t sdu).1 (.slice A (txPut c t sdu).1.flight.length a) (.slice B (txPut c t sdu).1.queue.length b), .bool (txPut c t sdu).2] ∧ Sl pRep z' (txPut c t sdu).1.flight (.slice A (txPut c t sdu).1.flight.length a) ∧ Sl pRep z' (txPut c t sdu).1.queue (.slice B (txPut c t sdu).1.queue.length b) := by
 have hok := txok_i c t f q z hI hf hq
 have hw := hI.win
 have hcw := hI.cfg.win
 have hq24 := hI.queue
 have hmps := hI.cfg.mps
 have hp1 : ∀ p ∈ t.flight, p.data.length ≤ 1000000000 := fun p hp => by have := hI.flSmall p hp; omega
 have hp2 : ∀ p ∈ t.queue, p.data.length ≤ 1000000000 := fun p hp => by have := hI.quSmall p hp; omega
 obtain ⟨A, k, cs, rfl, hk, he, hr⟩ := hf
 obtain ⟨B, k2, cs2, rfl, hk2, he2, hr2⟩ := hq
 obtain ⟨Av, kv, rfl, hkv, hBv, hrv⟩ := hv.form
 refine eP k138 ?_
 refine gO ?_
 refine tT ?_; refine callP (hok) rfl rfl ?_; rintro u z1 hz1 rfl; refine gO ?_
 refine tT ?_; refine callP (txcopy_i t _ _ z1 (Sl.mono hz1 ⟨A, k, cs, rfl, hk, he, hr⟩) (Sl.mono hz1 ⟨B, k2, cs2, rfl, hk2, he2, hr2⟩) (by omega) (by omega) hp1 hp2) rfl rfl ?_; rintro u z2 hz2 ⟨A2, B2, rfl, hf2, hq2⟩; refine gO ?_
 (with_reducible refine guardR.split (fun hg => ?_) (fun hg => ?_) <;> (try simp only [hg]) <;> simp only [seval, go_sem])
 ·refine gO ?_
  (first|refine fN ?_|exact fZ)
  rw [txPut_same (.inl hg)]
  exact ⟨_, _, _, _, by simp only [vTx, hg], hf2, hq2⟩
 ·have hdead : t.dead = false := hg
  refine gO ?_
  (with_reducible refine condI.split (fun hg => ?_) (fun hg => ?_) <;> (try simp only [hg]) <;> (try simp only [seval, go_sem]))
  ·(first|refine fN ?_|exact fZ)
   rw [txPut_same (.inr (.inl (by simpa using hg)))]
   exact ⟨_, _, _, _, by simp only [vTx, hdead], hf2, hq2⟩
  ·have hmtu : (sdu.length : Int) ≤ c.mtu := by simpa using hg
   refine gO ?_
   refine tT ?_; refine callP (segCut_i sdu c.mps _ z2 (hv.mono (Zc.trans' hz1 hz2)) hs (by omega)) rfl rfl ?_; rintro u z3 hz3 hs3; refine gO ?_
   obtain ⟨A3, k3, cs3, rfl, hk3, he3, hr3⟩ := hs3
   have h24 := segCut_length sdu c.mps
   refine gO ?_
   have w1 : IntKind.i64.wrap ((t.queue.length : Int) + ((segCut sdu c.mps).length : Int)) = ((t.queue.length + (segCut sdu c.mps).length : Nat) : Int) := by rw [wrap_in (by omega) (by omega)]; omega
   (with_reducible refine condI.split (fun hg => ?_) (fun hg => ?_) <;> (try simp only [hg]) <;> (try simp only [seval, go_sem]))
   ·rw [w1] at hg
    (first|refine fN ?_|exact fZ)
    rw [txPut_same (.inr (.inr (by simp at hg; omega)))]
    exact ⟨_, _, _, _, by simp only [vTx, hdead], hf2.mono hz3, hq2.mono hz3⟩
   ·rw [w1] at hg
    refine gO ?_
    obtain ⟨A4, k4, cs4, e4, hk4, he4, hr4⟩ := hq2.mono hz3
    injection e4 with e4 _ _
    subst e4
    have hl4 : cs4.length = t.queue.length * 3 := he4.length
    have hl3 : cs3.length = (segCut sdu c.mps).length * 3 := he3.length
    refine aT ?_; (refine appM_fullR 99 atyP rfl rfl (hr4) (by first | omega | (simp <;> omega)) rfl (hr3) (by first | omega | (simp <;> omega)) (he3.one) (by omega) (fun A5 c5 z5 hz5 hc5 hr5 => ?_)); dsimp only at hz5; refine gO ?_
    have he5 := (he4.append he3).mono hz5
    refine tT ?_; refine callP (cloneP A5 _ c5 _ z5 hr5 (by rw [List.length_append]; omega) he5.one (by omega)) rfl rfl ?_; rintro u z6 hz6 ⟨A6, rfl, hr6⟩; refine gO ?_
    (first|refine fN ?_|exact fZ)
    rw [txPut_good hdead hmtu (by simp at hg; omega)]
    exact ⟨A2, t.flight.length, A6, t.queue.length + (segCut sdu c.mps).length, by simp only [vTx, hdead, List.length_append], hf2.mono (Zc.trans' hz3 (Zc.trans' hz5 hz6)), _, _, _, by rw [List.length_append], by rw [List.length_append]; exact Nat.le_refl _, he5.mono hz6, hr6⟩
set_option maxHeartbeats 2000000
abbrev txA (b : Nat) (t : Tx) (v u : Value) : Asrt := ptrA 39 b [.int .i64 t.next, .int .i64 t.acked, v, .int .i64 t.sent, u, .bool t.asks, .int .i64 t.tries, .bool t.held, .int .i64 t.count, .bool t.dead]
theorem txsend1 (b : Nat) (c : Cfg) (t : Tx) (ack : Int) (A B : Option Addr) (k : Nat) (z : Zc) (hI : TxI c t) (hf : Sl pRep z t.flight (.slice A t.flight.length t.flight.length)) (hq : Sl pRep z t.queue (.slice B t.queue.length k)) :
  Spec Tryz.prog 163 [.pointer (some ⟨b, 0, none⟩), vCfg c, .int .i64 ack] z (starL [txA b t (.slice A t.flight.length t.flight.length) (.slice B t.queue.length k)]) fun v z' A' => ∃ X n A2 a2 B2 b2, v = .tuple #[vFrm ((txSend false c t ack).2.getD frm0) (.slice X ((txSend false c t ack).2.getD frm0).data.length n), .bool (txSend false c t ack).2.isSome] ∧
   A' = starL [txA b (txSend false c t ack).1 (.slice A2 (txSend false c t ack).1.flight.length a2) (.slice B2 (txSend false c t ack).1.queue.length b2)] ∧ Sl pRep z' (txSend false c t ack).1.flight (.slice A2 (txSend false c t ack).1.flight.length a2) ∧ Sl pRep z' (txSend false c t ack).1.queue (.slice B2 (txSend false c t ack).1.queue.length b2) ∧ By z' ((txSend false c t ack).2.getD frm0).data (.slice X ((txSend false c t ack).2.getD frm0).data.length n) := by
 have hw := hI.win
 have hcw := hI.cfg.win
 have hac := hI.acked
 have hnx := hI.next
 have hq24 := hI.queue
 have hcn := hI.count
 have hsn := hI.sent
 have hfs := hI.flSmall
 have hqs := hI.quSmall
 obtain ⟨next, acked, flight, sent, queue, asks, tries, held, count, dead⟩ := t
 dsimp only at *
 refine eQ [] k163 ?_
 have w1 : IntKind.i64.wrap (count + (flight.length : Int)) = count + flight.length := wrap_in (by omega) (by omega)
 cases dead
 rotate_left
 ·refine gO ?_
  (refine FinV.give 1000 0 2001 2000 rfl rfl rfl ?_); simp only [seval, go_sem, giveSt, subV, subC, subE, subL]
  (refine FinV.pk 999 [1000] ?_); dsimp only
  refine fP ?_
  rw [txSend_stop (by simp [txStops])]
  exact ⟨none, 0, _, _, _, _, rfl, rfl, hf, hq, Sl.nil _ _ _⟩
 cases asks
 rotate_left
 ·refine gO ?_
  (refine FinV.give 1000 0 2001 2000 rfl rfl rfl ?_); simp only [seval, go_sem, giveSt, subV, subC, subE, subL]
  (refine FinV.pk 999 [1000] ?_); dsimp only
  refine fP ?_
  rw [txSend_stop (by simp [txStops])]
  exact ⟨none, 0, _, _, _, _, rfl, rfl, hf, hq, Sl.nil _ _ _⟩
 cases held
 rotate_left
 ·refine gO ?_
  (refine FinV.give 1000 0 2001 2000 rfl rfl rfl ?_); simp only [seval, go_sem, giveSt, subV, subC, subE, subL]
  (refine FinV.pk 999 [1000] ?_); dsimp only
  refine fP ?_
  rw [txSend_stop (by simp [txStops])]
  exact ⟨none, 0, _, _, _, _, rfl, rfl, hf, hq, Sl.nil _ _ _⟩
 (try simp only [seval, go_sem]); repeat' (first | (with_reducible refine vsI.id ?_; (try simp only [seval, go_sem])) | (with_reducible refine vcI_cond ?_; (try simp only [seval, go_sem])) | (with_reducible refine guardR.split (fun hg => ?_) (fun hg => ?_) <;> (try simp only [hg]) <;> simp only [seval, go_sem]) | (with_reducible refine condI.split (fun hg => ?_) (fun hg => ?_) <;> (try simp only [hg]) <;> (try simp only [seval, go_sem])) | (with_reducible refine callM.toT ?_))
 ·simp only [beq_iff_eq, beq_eq_false_iff_ne, w1] at *
  (refine FinV.give 1000 0 2001 2000 rfl rfl rfl ?_); simp only [seval, go_sem, giveSt, subV, subC, subE, subL]
  (refine FinV.pk 999 [1000] ?_); dsimp only
  refine fP ?_
  rw [txSend_stop (by simp [txStops, txTop]; simp_all)]
  exact ⟨none, 0, _, _, _, _, rfl, rfl, hf, hq, Sl.nil _ _ _⟩
 ·simp only [beq_iff_eq, beq_eq_false_iff_ne, w1] at *
  (refine FinV.give 1000 0 2001 2000 rfl rfl rfl ?_); simp only [seval, go_sem, giveSt, subV, subC, subE, subL]
  (refine FinV.pk 999 [1000] ?_); dsimp only
  refine fP ?_
  rw [txSend_stop (by simp [txStops, txTop]; simp_all)]
  exact ⟨none, 0, _, _, _, _, rfl, rfl, hf, hq, Sl.nil _ _ _⟩
 ·simp only [beq_iff_eq, beq_eq_false_iff_ne, w1] at *
  (refine FinV.give 1000 0 2001 2000 rfl rfl rfl ?_); simp only [seval, go_sem, giveSt, subV, subC, subE, subL]
  (refine FinV.pk 999 [1000] ?_); dsimp only
  refine fP ?_
  rw [txSend_stop (by simp [txStops, txTop]; simp_all)]
  exact ⟨none, 0, _, _, _, _, rfl, rfl, hf, hq, Sl.nil _ _ _⟩
 ·rename_i g1 g2 g3 g4
  have hq0 := hq
  have hs : sent = (flight.length : Int) := beq_iff_eq.1 g1
  subst hs
  obtain ⟨p, rest, rfl⟩ : ∃ p rest, queue = p :: rest := by
   cases queue with
   | nil => simp at g3
   | cons p rest => exact ⟨p, rest, rfl⟩
  obtain ⟨A', k', cs, e1, hk, he, hr⟩ := hf
  injection e1 with e1 _ e3
  subst e1
  obtain ⟨B', k2', cs2, e2, hk2, he2, hr2⟩ := hq
  injection e2 with e2 _ e4
  subst e2
  obtain ⟨c1, ⟨v1, rfl, hb⟩, hr1⟩ := he2.at hr2 (k := 0) (x := p) rfl
  obtain ⟨Ab, kb, rfl, hkb, hBb, hrb⟩ := hb.form
  have hatB : IsAt B := he2.isAt hr2 (by decide) (k := 0) (by simp)
  have hl4 : cs.length = flight.length * 3 := he.length
  refine ⟨⟨by simp, hatB⟩, ?_⟩
  (refine ldF.agg _ rfl (by first | exact .inl hr1 | exact hr1) ?_; (try simp only [seval, go_sem]))
  refine gO ?_
  refine aT ?_; (refine appM_fullN 99 atyP rfl rfl hr (by first | omega | (simp <;> omega)) rfl rfl rfl rfl (by simp [Value.oneCell']) (by omega) (fun A5 c5 z5 hz5 hc5 hr5 => ?_)); dsimp only at hz5; refine gO ?_
  refine ⟨by omega, ?_⟩; refine gO ?_
  refine tT ?_; refine callP (numnext_i next z5 (by omega)) rfl rfl ?_; rintro _ _ - ⟨rfl, rfl⟩; refine gO ?_
  have he5 := (he.mono hz5).append (Els.single (d := pRep) (x := p) ⟨_, rfl, hb.mono hz5⟩)
  obtain ⟨c2, ⟨v2, rfl, hb2⟩, hr6⟩ := he5.at hr5 (k := flight.length) (x := p) (by simp)
  obtain ⟨Ac, kc, rfl, hkc, hBc, hrc⟩ := hb2.form
  have hat5 : IsAt A5 := he5.isAt hr5 (by decide) (k := flight.length) (by simp)
  have hp8 := hqs p (by simp)
  refine ⟨⟨by omega, by omega, hat5⟩, ?_⟩
  (refine ldF.agg _ rfl (by first | exact .inl hr6 | exact hr6) ?_; (try simp only [seval, go_sem]))
  refine gO ?_
  (with_reducible refine joinV.id ?_; simp only [seval, go_sem])
  refine And.intro ?_ ?_
  all_goals
   refine tT ?_; refine callP (cloneBy p.data _ z5 hb2 (by omega)) rfl rfl ?_; rintro u z6 hz6 ⟨A6, rfl, hB6, hr7⟩; refine gO ?_
  all_goals (refine FinV.give 1000 0 2001 2000 rfl rfl rfl ?_); simp only [seval, go_sem, giveSt, subV, subC, subE, subL]
  all_goals (refine FinV.pk 999 [1000] ?_); dsimp only
  all_goals refine fP ?_
  all_goals rw [txSend_new (by simp [txStops, txTop, w1] at g2 g3 g4 ⊢; simp_all) rfl rfl, wrap_in (by omega) (by omega), Int.tmod_eq_emod_of_nonneg (by omega), wrap_in (by omega) (by omega)]
  all_goals exact ⟨A6, p.data.length, A5, c5, cutA B k 1 3, k - 1, rfl, by simp only [txA, List.length_append, List.length_singleton], ⟨_, _, _, rfl, by simp only [List.length_append, List.length_singleton]; omega, he5.mono hz6, hr5.mono hz6⟩, (Sl.of_drop hq0 1).mono (Zc.trans' hz5 hz6), By.mk (Nat.le_refl _) hB6 hr7⟩
 ·exfalso
  simp_all
 ·exfalso
  simp_all
 ·have hs : sent ≠ (flight.length : Int) := beq_eq_false_iff_ne.1 hg
  obtain ⟨i, rfl⟩ := Int.eq_ofNat_of_zero_le hsn.1
  have hi : i < flight.length := by omega
  have hf0 := hf
  obtain ⟨A', k', cs, e1, hk, he, hr⟩ := hf
  injection e1 with e1 _ e3
  subst e1
  have hx : flight[i]? = some flight[i] := List.getElem?_eq_getElem hi
  have hgd : flight.getD i part0 = flight[i] := by simp [List.getD, hi]
  generalize flight[i] = p at hx hgd
  obtain ⟨c2, ⟨v2, rfl, hb2⟩, hr6⟩ := he.at hr hx
  obtain ⟨Ac, kc, rfl, hkc, hBc, hrc⟩ := hb2.form
  have hat : IsAt A := he.isAt hr (by decide) hi
  have hp8 := hfs p (List.mem_of_getElem? hx)
  refine ⟨⟨by omega, by omega, hat⟩, ?_⟩
  (refine ldF.agg _ rfl (by first | exact .inl hr6 | exact hr6) ?_; (try simp only [seval, go_sem]))
  refine gO ?_
  (with_reducible refine joinV.id ?_; simp only [seval, go_sem])
  refine And.intro ?_ ?_
  all_goals
   refine tT ?_; refine callP (cloneBy p.data _ z hb2 (by omega)) rfl rfl ?_; rintro u z6 hz6 ⟨A6, rfl, hB6, hr7⟩; refine gO ?_
  all_goals (refine FinV.give 1000 0 2001 2000 rfl rfl rfl ?_); simp only [seval, go_sem, giveSt, subV, subC, subE, subL]
  all_goals (refine FinV.pk 999 [1000] ?_); dsimp only
  all_goals refine fP ?_
  all_goals rw [txSend_old (by simp [txStops]; simp_all) hs, wrap_in (by omega) (by omega), Int.tmod_eq_emod_of_nonneg (by omega), wrap_in (by omega) (by omega)]
  all_goals simp only [Int.toNat_natCast, hgd]
  all_goals exact ⟨A6, p.data.length, A, _, B, k, rfl, rfl, hf0.mono hz6, hq.mono hz6, By.mk (Nat.le_refl _) hB6 hr7⟩
theorem txsend_i (c : Cfg) (t : Tx) (ack : Int) (f q : Value) (z : Zc) (hI : TxI c t) (hl : Low t) (hf : Sl pRep z t.flight f) (hq : Sl pRep z t.queue q) (hk : 0 ≤ ack ∧ ack ≤ 7) :
  PSpec Tryz.prog 139 [vCfg c, vTx t f q, .int .i64 ack] z fun u z' => ∃ X n A a B b, u = .tuple #[vTx (txSend false c t ack).1 (.slice A (txSend false c t ack).1.flight.length a) (.slice B (txSend false c t ack).1.queue.length b), vFrm ((txSend false c t ack).2.getD frm0) (.slice X ((txSend false c t ack).2.getD frm0).data.length n), .bool (txSend false c t ack).2.isSome] ∧
   Sl pRep z' (txSend false c t ack).1.flight (.slice A (txSend false c t ack).1.flight.length a) ∧ Sl pRep z' (txSend false c t ack).1.queue (.slice B (txSend false c t ack).1.queue.length b) ∧ By z' ((txSend false c t ack).2.getD frm0).data (.slice X ((txSend false c t ack).2.getD frm0).data.length n) := by
 have hok := txok_i c t f q z hI hf hq
 have hw := hI.win
 have hcw := hI.cfg.win
 have hq24 := hI.queue
 have hp1 : ∀ p ∈ t.flight, p.data.length ≤ 1000000000 := fun p hp => by have := hI.flSmall p hp; omega
 have hp2 : ∀ p ∈ t.queue, p.data.length ≤ 1000000000 := fun p hp => by have := hI.quSmall p hp; omega
 obtain ⟨A, k, cs, rfl, hka, he, hr⟩ := hf
 obtain ⟨B, k2, cs2, rfl, hk2, he2, hr2⟩ := hq
 refine eP k139 ?_
 refine gO ?_
 refine tT ?_; refine callP (hok) rfl rfl ?_; rintro u z1 hz1 rfl; refine gO ?_
 refine tT ?_; refine callP (isnum ack z1) rfl rfl ?_; rintro _ _ - ⟨rfl, rfl⟩; refine gO ?_
 simp only [isNum_iff.2 hk]
 refine gO ?_
 refine tT ?_; refine callP (txcopy_i t _ _ z1 (Sl.mono hz1 ⟨A, k, cs, rfl, hka, he, hr⟩) (Sl.mono hz1 ⟨B, k2, cs2, rfl, hk2, he2, hr2⟩) (by omega) (by omega) hp1 hp2) rfl rfl ?_; rintro u z2 hz2 ⟨A2, B2, rfl, hf2, hq2⟩; refine gO ?_
 (refine callT.give 90 4 2001 rfl rfl (fun b => ?_)); simp only [seval, go_sem, giveSt, subV, subC, subE, subL]
 refine tT ?_; (refine callM.pk 91 [90] ?_); dsimp only
 have hcall := fun b => txsend1 b c t ack A2 B2 t.queue.length z2 hI hf2 hq2
 have hI' := (@txSend_ok false c t ack hI hl).1
 generalize txSend false c t ack = tp at hcall hI' ⊢
 obtain ⟨t', o⟩ := tp
 dsimp only at hcall hI' ⊢
 refine tT ?_; refine callW 91 (hcall b) rfl rfl rfl rfl ?_; rintro v z3 A' hz3 ⟨X, n, A4, a4, B4, b4, rfl, rfl, h4, h5, h6⟩; (try simp only [seval, go_sem])
 (refine vsI.tf (Tf.open' 91 [92] rfl rfl rfl) ?_); simp only [seval, go_sem, zipL]
 (refine vsI.take 92 4 2001 rfl rfl rfl ?_); simp only [seval, go_sem, takeSt, unV, vals]; refine gO ?_
 have hw' := hI'.win
 have hq24' := hI'.queue
 refine tT ?_; refine callP (txcopy_i t' _ _ z3 h4 h5 (by omega) (by omega) (fun p hp => by have := hI'.flSmall p hp; omega) (fun p hp => by have := hI'.quSmall p hp; omega)) rfl rfl ?_; rintro v z4 hz4 ⟨A6, B6, rfl, h7, h8⟩; refine gO ?_
 (first|refine fN ?_|exact fZ)
 exact ⟨_, _, _, _, _, _, rfl, h7, h8, Sl.mono hz4 h6⟩
theorem txhear_i (c : Cfg) (t : Tx) (f : Frm) (fl q x : Value) (z : Zc) (hI : TxI c t) (hf : Sl pRep z t.flight fl) (hq : Sl pRep z t.queue q) (hx : By z f.data x) (hok : frmOk f = true) (hkk : f.kind = 1 ∨ f.kind = 2) :
  PSpec Tryz.prog 133 [vCfg c, vTx t fl q, vFrm f x] z fun u z' => ∃ A a B b, u = vTx (txHear t f) (.slice A (txHear t f).flight.length a) (.slice B (txHear t f).queue.length b) ∧ Sl pRep z' (txHear t f).flight (.slice A (txHear t f).flight.length a) ∧ Sl pRep z' (txHear t f).queue (.slice B (txHear t f).queue.length b) := by
 have hto := txok_i c t fl q z hI hf hq
 have hw := hI.win
 have hcw := hI.cfg.win
 have hac := hI.acked
 have hq24 := hI.queue
 have hcn := hI.count
 have hsn := hI.sent
 have hp1 : ∀ p ∈ t.flight, p.data.length ≤ 1000000000 := fun p hp => by have := hI.flSmall p hp; omega
 have hp2 : ∀ p ∈ t.queue, p.data.length ≤ 1000000000 := fun p hp => by have := hI.quSmall p hp; omega
 have hack := frm2ack hok hkk
 have hfb := frmOk_bound hok
 have hn0 := far_lt t.acked f.ack
 obtain ⟨n, hn⟩ := Int.eq_ofNat_of_zero_le hn0.1
 obtain ⟨A, k, cs, rfl, hka, he, hr⟩ := hf
 obtain ⟨B, k2, cs2, rfl, hk2, he2, hr2⟩ := hq
 obtain ⟨Ax, kx, rfl, hkx, hBx, hrx⟩ := hx.form
 obtain ⟨next, acked, flight, sent, queue, asks, tries, held, count, dead⟩ := t
 obtain ⟨kind, seq, ack, poll, fin, say, seg, len, data⟩ := f
 dsimp only at *
 refine eP k133 ?_
 refine gO ?_
 refine tT ?_; refine callP (hto) rfl rfl ?_; rintro u z1 hz1 rfl; refine gO ?_
 refine tT ?_; refine callP (frmOk_i ⟨kind, seq, ack, poll, fin, say, seg, len, data⟩ _ z1 (Sl.mono hz1 hx) (by show data.length ≤ _; omega)) rfl rfl ?_; rintro _ _ - ⟨rfl, rfl⟩; refine gO ?_
 simp only [hok]
 rcases hkk with rfl | rfl
 ·simp only [seval, go_sem]
  refine gO ?_
  refine tT ?_; refine callP (txcopy_i ⟨next, acked, flight, sent, queue, asks, tries, held, count, dead⟩ _ _ z1 (Sl.mono hz1 ⟨A, k, cs, rfl, hka, he, hr⟩) (Sl.mono hz1 ⟨B, k2, cs2, rfl, hk2, he2, hr2⟩) (by show flight.length ≤ _; omega) (by show queue.length ≤ _; omega) hp1 hp2) rfl rfl ?_; rintro u z2 hz2 ⟨A2, B2, rfl, hf2, hq2⟩; refine gO ?_
  dsimp only at hf2 hq2
  cases dead with
  | true =>
   refine gO ?_
   (first|refine fN ?_|exact fZ)
   rw [txHear_dead rfl]
   exact ⟨_, _, _, _, rfl, hf2, hq2⟩
  | false =>
   refine gO ?_
   refine tT ?_; refine callP (far_i acked ack z2 (by omega) (by omega) (by omega)) rfl rfl ?_; rintro _ _ - ⟨rfl, rfl⟩; refine gO ?_
   by_cases hfar : far acked ack > flight.length
   ·have d1 : decide (far acked ack > (flight.length : Int)) = true := decide_eq_true hfar
    rw [txHear_end rfl hfar]
    simp only [d1]
    refine gO ?_
    (first|refine fN ?_|exact fZ)
    exact ⟨_, _, _, _, rfl, hf2, hq2⟩
   ·have d1 : decide (far acked ack > (flight.length : Int)) = false := decide_eq_false hfar
    rw [txHear_go rfl hfar]
    simp only [d1]
    refine gO ?_
    have hnl : n ≤ flight.length := by omega
    simp only [hn, Int.toNat_natCast] at *
    refine ⟨by omega, ?_⟩; refine gO ?_
    obtain ⟨A3, k3, cs3, e3, hk3, he3, hr3⟩ := Sl.of_drop hf2 n
    injection e3 with e3 e4 e5
    subst e3
    have hd1 : (flight.drop n).length = flight.length - n := by simp
    refine tT ?_; refine callP (cloneP _ _ _ cs3 z2 hr3 (by rw [he3.length, hd1]; rfl) he3.one (by omega)) rfl rfl ?_; rintro u z3 hz3 ⟨A4, rfl, hr4⟩; refine gO ?_
    have w1 : IntKind.i64.wrap (sent - (n : Int)) = sent - n := wrap_in (by omega) (by omega)
    have w2 : IntKind.i64.wrap (count + (n : Int)) = count + n := wrap_in (by omega) (by omega)
    have s1 : Sl pRep z3 (flight.drop n) (.slice A4 (flight.drop n).length (flight.length - n)) := ⟨_, _, cs3, rfl, by omega, he3.mono hz3, hr4⟩
    have s2 : Sl pRep z3 queue (.slice B2 queue.length queue.length) := hq2.mono hz3
    have w3 : (if sent - (n : Int) > 0 then sent - (n : Int) else 0) = max 0 (sent - n) := by split <;> omega
    have hb2 : (say == 2) = decide (say = 2) := by rw [Bool.eq_iff_iff]; simp
    clear hto he he2 hr hr2 hr4 hrx he3 hr3 hf2 hq2 hx hI hp1 hp2
    (try simp only [seval, go_sem]); repeat' (first | (with_reducible refine vsI.id ?_; (try simp only [seval, go_sem])) | (with_reducible refine vcI_cond ?_; (try simp only [seval, go_sem])) | (with_reducible refine guardR.split (fun hg => ?_) (fun hg => ?_) <;> (try simp only [hg]) <;> simp only [seval, go_sem]) | (with_reducible refine condI.split (fun hg => ?_) (fun hg => ?_) <;> (try simp only [hg]) <;> (try simp only [seval, go_sem])) | (with_reducible refine callM.toT ?_))
    all_goals (first|refine fN ?_|exact fZ)
    all_goals refine ⟨A4, flight.length - n, B2, queue.length, ?_, s1, s2⟩
    all_goals simp only [w1, w2, hd1, w3, hb2]
    all_goals clear s1 s2 w1 w2 w3 hb2 e4 e5 hd1 hk3 hnl hn0 hfar d1 hsn hcn hn
    all_goals simp_all
 ·simp only [seval, go_sem]
  refine gO ?_
  refine tT ?_; refine callP (txcopy_i ⟨next, acked, flight, sent, queue, asks, tries, held, count, dead⟩ _ _ z1 (Sl.mono hz1 ⟨A, k, cs, rfl, hka, he, hr⟩) (Sl.mono hz1 ⟨B, k2, cs2, rfl, hk2, he2, hr2⟩) (by show flight.length ≤ _; omega) (by show queue.length ≤ _; omega) hp1 hp2) rfl rfl ?_; rintro u z2 hz2 ⟨A2, B2, rfl, hf2, hq2⟩; refine gO ?_
  dsimp only at hf2 hq2
  cases dead with
  | true =>
   refine gO ?_
   (first|refine fN ?_|exact fZ)
   rw [txHear_dead rfl]
   exact ⟨_, _, _, _, rfl, hf2, hq2⟩
  | false =>
   refine gO ?_
   refine tT ?_; refine callP (far_i acked ack z2 (by omega) (by omega) (by omega)) rfl rfl ?_; rintro _ _ - ⟨rfl, rfl⟩; refine gO ?_
   by_cases hfar : far acked ack > flight.length
   ·have d1 : decide (far acked ack > (flight.length : Int)) = true := decide_eq_true hfar
    rw [txHear_end rfl hfar]
    simp only [d1]
    refine gO ?_
    (first|refine fN ?_|exact fZ)
    exact ⟨_, _, _, _, rfl, hf2, hq2⟩
   ·have d1 : decide (far acked ack > (flight.length : Int)) = false := decide_eq_false hfar
    rw [txHear_go rfl hfar]
    simp only [d1]
    refine gO ?_
    have hnl : n ≤ flight.length := by omega
    simp only [hn, Int.toNat_natCast] at *
    refine ⟨by omega, ?_⟩; refine gO ?_
    obtain ⟨A3, k3, cs3, e3, hk3, he3, hr3⟩ := Sl.of_drop hf2 n
    injection e3 with e3 e4 e5
    subst e3
    have hd1 : (flight.drop n).length = flight.length - n := by simp
    refine tT ?_; refine callP (cloneP _ _ _ cs3 z2 hr3 (by rw [he3.length, hd1]; rfl) he3.one (by omega)) rfl rfl ?_; rintro u z3 hz3 ⟨A4, rfl, hr4⟩; refine gO ?_
    have w1 : IntKind.i64.wrap (sent - (n : Int)) = sent - n := wrap_in (by omega) (by omega)
    have w2 : IntKind.i64.wrap (count + (n : Int)) = count + n := wrap_in (by omega) (by omega)
    have s1 : Sl pRep z3 (flight.drop n) (.slice A4 (flight.drop n).length (flight.length - n)) := ⟨_, _, cs3, rfl, by omega, he3.mono hz3, hr4⟩
    have s2 : Sl pRep z3 queue (.slice B2 queue.length queue.length) := hq2.mono hz3
    have w3 : (if sent - (n : Int) > 0 then sent - (n : Int) else 0) = max 0 (sent - n) := by split <;> omega
    have hb2 : (say == 2) = decide (say = 2) := by rw [Bool.eq_iff_iff]; simp
    clear hto he he2 hr hr2 hr4 hrx he3 hr3 hf2 hq2 hx hI hp1 hp2
    (try simp only [seval, go_sem]); repeat' (first | (with_reducible refine vsI.id ?_; (try simp only [seval, go_sem])) | (with_reducible refine vcI_cond ?_; (try simp only [seval, go_sem])) | (with_reducible refine guardR.split (fun hg => ?_) (fun hg => ?_) <;> (try simp only [hg]) <;> simp only [seval, go_sem]) | (with_reducible refine condI.split (fun hg => ?_) (fun hg => ?_) <;> (try simp only [hg]) <;> (try simp only [seval, go_sem])) | (with_reducible refine callM.toT ?_))
    all_goals (first|refine fN ?_|exact fZ)
    all_goals refine ⟨A4, flight.length - n, B2, queue.length, ?_, s1, s2⟩
    all_goals simp only [w1, w2, hd1, w3, hb2]
    all_goals clear s1 s2 w1 w2 w3 hb2 e4 e5 hd1 hk3 hnl hn0 hfar d1 hsn hcn hn
    all_goals simp_all
theorem rxok_i (r : Rx) (q : Value) (z : Zc) (hI : RxI r) (h : By z r.join.got q) : PSpec Tryz.prog 40 [vRx r q] z fun u z' => u = .bool true ∧ z = z' := by
 obtain ⟨A, k, rfl, hk, hB, hr⟩ := h.form
 have hj := hI.join.le
 have hjl : -1000000000 ≤ r.join.len := by rcases hI.join with h | h <;> omega
 have hcn := hI.count
 refine eP k40 ?_
 refine gO ?_
 refine tT ?_; refine callP (isnum r.expect z) rfl rfl ?_; rintro _ _ - ⟨rfl, rfl⟩; refine gO ?_
 simp only [isNum_iff.2 hI.expect]
 refine gO ?_
 refine tT ?_; refine callP (in_i r.count 0 9999 z) rfl rfl ?_; rintro _ _ - ⟨rfl, rfl⟩; refine gO ?_
 simp only [inB_iff.2 hcn]
 refine gO ?_
 refine tT ?_; refine callP (numof_i r.count z (by omega)) rfl rfl ?_; rintro _ _ - ⟨rfl, rfl⟩; refine gO ?_
 simp only [seval, go_sem, hI.num, beq_self_eq_true]
 refine gO ?_
 refine tT ?_; refine callP (joinok_i r.join A k z (by omega) hjl) rfl rfl ?_; rintro _ _ - ⟨rfl, rfl⟩; refine gO ?_
 simp only [joinOk_iff.2 hI.join]
 (first|refine fN ?_|exact fZ)
theorem rxcopy_i (r : Rx) (q : Value) (z : Zc) (h : By z r.join.got q) (hl : r.join.got.length ≤ 1000000000) : PSpec Tryz.prog 100 [vRx r q] z fun u z' => ∃ A, u = vRx r (.slice A r.join.got.length r.join.got.length) ∧ By z' r.join.got (.slice A r.join.got.length r.join.got.length) := by
 obtain ⟨A, k, rfl, hk, hB, hr⟩ := h.form
 refine eP k100 ?_
 refine gO ?_
 refine tT ?_; refine callP (cloneBy r.join.got _ z h hl) rfl rfl ?_; rintro u z1 hz1 ⟨A2, rfl, _, hs⟩; refine gO ?_
 (first|refine fN ?_|exact fZ)
 exact ⟨_, rfl, By.mk (Nat.le_refl _) hB hs⟩
theorem say_i (r : Rx) (A : Option Addr) (n k : Nat) (what : Int) (fin : Bool) (z : Zc) : PSpec Tryz.prog 165 [vRx r (.slice A n k), .int .i64 what, .bool fin] z fun u z' => u = vFrm (sayFrm r.expect false fin what) (.slice none 0 0) ∧ z = z' := by
 refine eP k165 ?_
 refine gO ?_
 (first|refine fN ?_|exact fZ)
 first | rfl | exact ⟨rfl, rfl⟩ | simp [sayFrm]
abbrev rxA (b : Nat) (r : Rx) (v : Value) : Asrt := ptrA 43 b [.int .i64 r.expect, .int .i64 r.count, .int .i64 r.join.len, v, .bool r.again, .bool r.busy, .bool r.dead]
theorem rxhear1 (b : Nat) (c : Cfg) (r : Rx) (f : Frm) (q u : Value) (z : Zc) (hq : By z r.join.got q) (hu : By z f.data u) (hI : RxI r) (hf : frmOk f = true) (hk : f.kind = 1 ∨ f.kind = 2) :
  Spec Tryz.prog 160 [.pointer (some ⟨b, 0, none⟩), vCfg c, vFrm f u] z (starL [rxA b r q]) fun v z' A' => ∃ A k B n b' D m d, v = .tuple #[.slice B n b', .slice D m d] ∧ A' = starL [rxA b (rxHear c r f).1 (.slice A (rxHear c r f).1.join.got.length k)] ∧ By z' (rxHear c r f).1.join.got (.slice A (rxHear c r f).1.join.got.length k) ∧ Sl sduRep z' (rxHear c r f).2.1 (.slice B n b') ∧ Sl fRep z' (rxHear c r f).2.2 (.slice D m d) := by
 obtain ⟨A, k, rfl, hka, hB, hr⟩ := hq.form
 obtain ⟨A2, k2, rfl, hk2, hB2, hr2⟩ := hu.form
 obtain ⟨expect, count, join, again, busy, dead⟩ := r
 have hex := hI.expect
 have hct := hI.count
 have hjI := hI.join
 dsimp only at *
 refine eQ [] k160 ?_
 refine gO ?_
 cases dead with
 | true =>
  refine gO ?_
  (refine FinV.give 1000 0 2001 2000 rfl rfl rfl ?_); simp only [seval, go_sem, giveSt, subV, subC, subE, subL]
  (refine FinV.pk 999 [1000] ?_); dsimp only
  refine fP ?_
  rw [show rxHear c ⟨expect, count, join, again, busy, true⟩ f = (⟨expect, count, join, again, busy, true⟩, [], []) by unfold rxHear; rw [if_pos rfl]]
  exact ⟨A, k, _, _, _, _, _, _, rfl, rfl, hq, Sl.nil _ _ _, Sl.nil _ _ _⟩
 | false =>
  rcases hk with h1 | h1
  ·have e1 : (f.kind == 2) = false := by rw [h1]; rfl
   obtain ⟨hp, hs⟩ := frm1 hf h1
   refine gO ?_
   simp only [e1]
   refine gO ?_
   simp only [e1]
   refine gO ?_
   cases busy with
   | true =>
    refine gO ?_
    refine tT ?_; refine callP (say_i ⟨expect, count, join, again, true, false⟩ A join.got.length k 2 false z) rfl rfl ?_; rintro _ _ - ⟨rfl, rfl⟩; refine gO ?_
    (refine FinV.frz 3 rfl rfl (fun b4 z4 hz4 hr4 => ?_)); dsimp only at hz4; simp only [seval, go_sem, Go.Proofs.YtllafcmkppmdgaaGreat.frz, subV, subC, subE, subL]
    (refine FinV.give 1000 0 2001 2000 rfl rfl rfl ?_); simp only [seval, go_sem, giveSt, subV, subC, subE, subL]
    (refine FinV.pk 999 [1000] ?_); dsimp only
    refine fP ?_
    rw [show rxHear c ⟨expect, count, join, again, true, false⟩ f = (⟨expect, count, join, again, true, false⟩, [], [sayFrm expect false false 2]) by unfold rxHear; rw [if_neg (by simp), if_neg (by omega), if_pos rfl]]
    exact ⟨A, k, _, _, _, _, _, _, rfl, rfl, hq.mono hz4, Sl.nil _ _ _, _, _, _, rfl, Nat.le_refl _, Els.single (d := fRep) ⟨_, rfl, Sl.nil _ _ _⟩, hr4⟩
   | false =>
    refine gO ?_
    by_cases hse : f.seq = expect
    ·have e2 : (f.seq == expect) = true := beq_iff_eq.2 hse
     have hrt : rxHear c ⟨expect, count, join, again, false, false⟩ f = ((rxTake c ⟨expect, count, join, again, false, false⟩ f).1, (rxTake c ⟨expect, count, join, again, false, false⟩ f).2, []) := by unfold rxHear; rw [if_neg (by simp), if_neg (by omega), if_neg (by simp), if_pos hse]
     simp only [e2]
     refine gO ?_
     (try simp only [seval, go_sem]); repeat' (first | (with_reducible refine vsI.id ?_; (try simp only [seval, go_sem])) | (with_reducible refine vcI_cond ?_; (try simp only [seval, go_sem])) | (with_reducible refine guardR.split (fun hg => ?_) (fun hg => ?_) <;> (try simp only [hg]) <;> simp only [seval, go_sem]) | (with_reducible refine condI.split (fun hg => ?_) (fun hg => ?_) <;> (try simp only [hg]) <;> (try simp only [seval, go_sem])) | (with_reducible refine callM.toT ?_))
     ·have hno : f.len > c.mtu ∨ (f.data.length : Int) > c.mps ∨ count = 9999 := by simp at *; omega
      (refine FinV.give 1000 0 2001 2000 rfl rfl rfl ?_); simp only [seval, go_sem, giveSt, subV, subC, subE, subL]
      (refine FinV.pk 999 [1000] ?_); dsimp only
      refine fP ?_
      rw [hrt, rxTake_end hno]
      exact ⟨A, k, _, _, _, _, _, _, rfl, rfl, hq, Sl.nil _ _ _, Sl.nil _ _ _⟩
     ·have hno : f.len > c.mtu ∨ (f.data.length : Int) > c.mps ∨ count = 9999 := by simp at *; omega
      (refine FinV.give 1000 0 2001 2000 rfl rfl rfl ?_); simp only [seval, go_sem, giveSt, subV, subC, subE, subL]
      (refine FinV.pk 999 [1000] ?_); dsimp only
      refine fP ?_
      rw [hrt, rxTake_end hno]
      exact ⟨A, k, _, _, _, _, _, _, rfl, rfl, hq, Sl.nil _ _ _, Sl.nil _ _ _⟩
     ·have hno : f.len > c.mtu ∨ (f.data.length : Int) > c.mps ∨ count = 9999 := by simp at *; omega
      (refine FinV.give 1000 0 2001 2000 rfl rfl rfl ?_); simp only [seval, go_sem, giveSt, subV, subC, subE, subL]
      (refine FinV.pk 999 [1000] ?_); dsimp only
      refine fP ?_
      rw [hrt, rxTake_end hno]
      exact ⟨A, k, _, _, _, _, _, _, rfl, rfl, hq, Sl.nil _ _ _, Sl.nil _ _ _⟩
     ·rename_i h0 h2
      have hno : ¬ (f.len > c.mtu ∨ (f.data.length : Int) > c.mps ∨ count = 9999) := by simp at h0 h2 hg; omega
      have hj := hjI.le
      have hpb := pieceOk_bound hp
      have hjl : 0 ≤ join.len := by rcases hjI with h | h <;> omega
      have w1 : IntKind.i64.wrap (count + 1) = count + 1 := wrap_in (by omega) (by omega)
      rw [hrt]
      (with_reducible refine joinV.id ?_; simp only [seval, go_sem])
      refine And.intro ?_ ?_
      all_goals
       refine tT ?_; refine callP (puti join ⟨f.seg, f.len, f.data⟩ _ _ z hq hu (by omega) (by show f.data.length ≤ _; omega) hjl (by show 0 ≤ f.seg ∧ f.seg ≤ 3; omega)) rfl rfl ?_; rintro v z1 hz1 ⟨A3, k3, A4, k4, rfl, h3, h4⟩; refine gO ?_
      all_goals (try simp only [seval, go_sem]); repeat' (first | (with_reducible refine vsI.id ?_; (try simp only [seval, go_sem])) | (with_reducible refine vcI_cond ?_; (try simp only [seval, go_sem])) | (with_reducible refine guardR.split (fun hg => ?_) (fun hg => ?_) <;> (try simp only [hg]) <;> simp only [seval, go_sem]) | (with_reducible refine condI.split (fun hg => ?_) (fun hg => ?_) <;> (try simp only [hg]) <;> (try simp only [seval, go_sem])) | (with_reducible refine callM.toT ?_) | (refine callP (numnext_i expect _ (by omega)) rfl rfl ?_; rintro _ _ - ⟨rfl, rfl⟩; (try simp only [seval, go_sem])))
      ·have h33 : (segPut join ⟨f.seg, f.len, f.data⟩).2.2 = 3 := by simpa using hg
       (refine FinV.give 1000 0 2001 2000 rfl rfl rfl ?_); simp only [seval, go_sem, giveSt, subV, subC, subE, subL]
       (refine FinV.pk 999 [1000] ?_); dsimp only
       refine fP ?_
       rw [rxTake_bad hno h33]
       exact ⟨A3, k3, _, _, _, _, _, _, rfl, rfl, h3, Sl.nil _ _ _, Sl.nil _ _ _⟩
      ·have h33 : (segPut join ⟨f.seg, f.len, f.data⟩).2.2 = 2 := by simpa using hg
       (refine FinV.frz 4 rfl rfl (fun b4 z4 hz4 hr4 => ?_)); dsimp only at hz4; simp only [seval, go_sem, Go.Proofs.YtllafcmkppmdgaaGreat.frz, subV, subC, subE, subL]
       (refine FinV.give 1000 0 2001 2000 rfl rfl rfl ?_); simp only [seval, go_sem, giveSt, subV, subC, subE, subL]
       (refine FinV.pk 999 [1000] ?_); dsimp only
       refine fP ?_
       rw [w1, rxTake_yes hno (by simp only; omega), if_pos h33]
       exact ⟨A3, k3, _, _, _, _, _, _, rfl, rfl, h3.mono hz4, ⟨_, _, _, rfl, Nat.le_refl _, Els.single (d := sduRep) ⟨_, rfl, h4.mono hz4⟩, hr4⟩, Sl.nil _ _ _⟩
      ·have h33 : (segPut join ⟨f.seg, f.len, f.data⟩).2.2 ≠ 2 := by simpa using hg
       (refine FinV.give 1000 0 2001 2000 rfl rfl rfl ?_); simp only [seval, go_sem, giveSt, subV, subC, subE, subL]
       (refine FinV.pk 999 [1000] ?_); dsimp only
       refine fP ?_
       rw [w1, rxTake_yes hno (by rename_i hg1; simpa using hg1), if_neg h33]
       exact ⟨A3, k3, _, _, _, _, _, _, rfl, rfl, h3, Sl.nil _ _ _, Sl.nil _ _ _⟩
      ·have h33 : (segPut join ⟨f.seg, f.len, f.data⟩).2.2 = 3 := by simpa using hg
       (refine FinV.give 1000 0 2001 2000 rfl rfl rfl ?_); simp only [seval, go_sem, giveSt, subV, subC, subE, subL]
       (refine FinV.pk 999 [1000] ?_); dsimp only
       refine fP ?_
       rw [rxTake_bad hno h33]
       exact ⟨A3, k3, _, _, _, _, _, _, rfl, rfl, h3, Sl.nil _ _ _, Sl.nil _ _ _⟩
      ·have h33 : (segPut join ⟨f.seg, f.len, f.data⟩).2.2 = 2 := by simpa using hg
       (refine FinV.frz 4 rfl rfl (fun b4 z4 hz4 hr4 => ?_)); dsimp only at hz4; simp only [seval, go_sem, Go.Proofs.YtllafcmkppmdgaaGreat.frz, subV, subC, subE, subL]
       (refine FinV.give 1000 0 2001 2000 rfl rfl rfl ?_); simp only [seval, go_sem, giveSt, subV, subC, subE, subL]
       (refine FinV.pk 999 [1000] ?_); dsimp only
       refine fP ?_
       rw [w1, rxTake_yes hno (by simp only; omega), if_pos h33]
       exact ⟨A3, k3, _, _, _, _, _, _, rfl, rfl, h3.mono hz4, ⟨_, _, _, rfl, Nat.le_refl _, Els.single (d := sduRep) ⟨_, rfl, h4.mono hz4⟩, hr4⟩, Sl.nil _ _ _⟩
      ·have h33 : (segPut join ⟨f.seg, f.len, f.data⟩).2.2 ≠ 2 := by simpa using hg
       (refine FinV.give 1000 0 2001 2000 rfl rfl rfl ?_); simp only [seval, go_sem, giveSt, subV, subC, subE, subL]
       (refine FinV.pk 999 [1000] ?_); dsimp only
       refine fP ?_
       rw [w1, rxTake_yes hno (by rename_i hg1; simpa using hg1), if_neg h33]
       exact ⟨A3, k3, _, _, _, _, _, _, rfl, rfl, h3, Sl.nil _ _ _, Sl.nil _ _ _⟩
    ·have e2 : (f.seq == expect) = false := beq_eq_false_iff_ne.2 hse
     simp only [e2]
     refine gO ?_
     refine tT ?_; refine callP (far_i expect f.seq z (by omega) (by omega) (by omega)) rfl rfl ?_; rintro _ _ - ⟨rfl, rfl⟩; refine gO ?_
     by_cases hfw : far expect f.seq < c.win
     ·have d1 : decide (far expect f.seq < c.win) = true := decide_eq_true hfw
      simp only [d1]
      cases again with
      | true =>
       refine gO ?_
       (refine FinV.give 1000 0 2001 2000 rfl rfl rfl ?_); simp only [seval, go_sem, giveSt, subV, subC, subE, subL]
       (refine FinV.pk 999 [1000] ?_); dsimp only
       refine fP ?_
       rw [show rxHear c ⟨expect, count, join, true, false, false⟩ f = (⟨expect, count, join, true, false, false⟩, [], []) by unfold rxHear; rw [if_neg (by simp), if_neg (by omega), if_neg (by simp), if_neg hse, if_neg (by simp)]]
       exact ⟨A, k, _, _, _, _, _, _, rfl, rfl, hq, Sl.nil _ _ _, Sl.nil _ _ _⟩
      | false =>
       refine gO ?_
       refine tT ?_; refine callP (say_i ⟨expect, count, join, true, false, false⟩ A join.got.length k 1 false z) rfl rfl ?_; rintro _ _ - ⟨rfl, rfl⟩; refine gO ?_
       (refine FinV.frz 3 rfl rfl (fun b4 z4 hz4 hr4 => ?_)); dsimp only at hz4; simp only [seval, go_sem, Go.Proofs.YtllafcmkppmdgaaGreat.frz, subV, subC, subE, subL]
       (refine FinV.give 1000 0 2001 2000 rfl rfl rfl ?_); simp only [seval, go_sem, giveSt, subV, subC, subE, subL]
       (refine FinV.pk 999 [1000] ?_); dsimp only
       refine fP ?_
       rw [show rxHear c ⟨expect, count, join, false, false, false⟩ f = (⟨expect, count, join, true, false, false⟩, [], [sayFrm expect false false 1]) by unfold rxHear; rw [if_neg (by simp), if_neg (by omega), if_neg (by simp), if_neg hse, if_pos ⟨hfw, rfl⟩]]
       exact ⟨A, k, _, _, _, _, _, _, rfl, rfl, hq.mono hz4, Sl.nil _ _ _, ⟨_, _, _, rfl, Nat.le_refl _, Els.single (d := fRep) ⟨_, rfl, Sl.nil _ _ _⟩, hr4⟩⟩
     ·have d1 : decide (far expect f.seq < c.win) = false := decide_eq_false hfw
      simp only [d1]
      refine gO ?_
      (refine FinV.give 1000 0 2001 2000 rfl rfl rfl ?_); simp only [seval, go_sem, giveSt, subV, subC, subE, subL]
      (refine FinV.pk 999 [1000] ?_); dsimp only
      refine fP ?_
      rw [show rxHear c ⟨expect, count, join, again, false, false⟩ f = (⟨expect, count, join, again, false, false⟩, [], []) by unfold rxHear; rw [if_neg (by simp), if_neg (by omega), if_neg (by simp), if_neg hse, if_neg (by simp [hfw])]]
      exact ⟨A, k, _, _, _, _, _, _, rfl, rfl, hq, Sl.nil _ _ _, Sl.nil _ _ _⟩
  ·have e1 : (f.kind == 2) = true := by rw [h1]; rfl
   refine gO ?_
   simp only [e1]
   refine gO ?_
   cases hpo : f.poll with
   | true =>
    try simp only [hpo]
    refine gO ?_
    simp only [e1]
    refine gO ?_
    refine tT ?_; refine callP (gowait_i busy z) rfl rfl ?_; rintro _ _ - ⟨rfl, rfl⟩; refine gO ?_
    refine tT ?_; refine callP (say_i ⟨expect, count, join, false, busy, false⟩ A join.got.length k (goWait busy) true z) rfl rfl ?_; rintro _ _ - ⟨rfl, rfl⟩; refine gO ?_
    (refine FinV.frz 3 rfl rfl (fun b4 z4 hz4 hr4 => ?_)); dsimp only at hz4; simp only [seval, go_sem, Go.Proofs.YtllafcmkppmdgaaGreat.frz, subV, subC, subE, subL]
    (refine FinV.give 1000 0 2001 2000 rfl rfl rfl ?_); simp only [seval, go_sem, giveSt, subV, subC, subE, subL]
    (refine FinV.pk 999 [1000] ?_); dsimp only
    refine fP ?_
    rw [show rxHear c ⟨expect, count, join, again, busy, false⟩ f = (⟨expect, count, join, false, busy, false⟩, [], [sayFrm expect false true (goWait busy)]) by unfold rxHear; rw [if_neg (by simp), if_pos h1, if_pos hpo]]
    exact ⟨A, k, _, _, _, _, _, _, rfl, rfl, hq.mono hz4, Sl.nil _ _ _, ⟨_, _, _, rfl, Nat.le_refl _, Els.single (d := fRep) ⟨_, rfl, Sl.nil _ _ _⟩, hr4⟩⟩
   | false =>
    try simp only [hpo]
    refine gO ?_
    (refine FinV.give 1000 0 2001 2000 rfl rfl rfl ?_); simp only [seval, go_sem, giveSt, subV, subC, subE, subL]
    (refine FinV.pk 999 [1000] ?_); dsimp only
    refine fP ?_
    rw [show rxHear c ⟨expect, count, join, again, busy, false⟩ f = (⟨expect, count, join, again, busy, false⟩, [], []) by unfold rxHear; rw [if_neg (by simp), if_pos h1, if_neg (by simp [hpo])]]
    exact ⟨A, k, _, _, _, _, _, _, rfl, rfl, hq, Sl.nil _ _ _, Sl.nil _ _ _⟩
theorem rxhear_i (c : Cfg) (r : Rx) (f : Frm) (q u : Value) (z : Zc) (hc : CfgI c) (hq : By z r.join.got q) (hu : By z f.data u) (hI : RxI r) (hf : frmOk f = true) (hk : f.kind = 1 ∨ f.kind = 2) :
  PSpec Tryz.prog 134 [vCfg c, vRx r q, vFrm f u] z fun v z' => HearV z' (rxHear c r f) v := by
 have hro := rxok_i r q z hI hq
 obtain ⟨A, k, rfl, hka, hB, hr⟩ := hq.form
 obtain ⟨A2, k2, rfl, hk2, hB2, hr2⟩ := hu.form
 have hfb := frmOk_bound hf
 have hj := hI.join.le
 have hfo := frmOk_i f _ z hu (by omega)
 rw [hf] at hfo
 have hcl := fun b z2 A3 => @rxhear1 b c r f (.slice A3 r.join.got.length r.join.got.length) (.slice A2 f.data.length k2) z2
 have hgot := (rxHear_ok (c := c) hI hf hk).1.join.le
 obtain ⟨kind, seq, ack, poll, fin, say, seg, len, data⟩ := f
 dsimp only at *
 refine eP k134 ?_
 refine gO ?_
 refine tT ?_; refine callP (cfgok_i c z) rfl rfl ?_; rintro _ _ - ⟨rfl, rfl⟩; refine gO ?_
 simp only [cfgOk_iff.2 hc]
 refine gO ?_
 refine tT ?_; refine callP (hro) rfl rfl ?_; rintro _ _ - ⟨rfl, rfl⟩; refine gO ?_
 refine tT ?_; refine callP (hfo) rfl rfl ?_; rintro _ _ - ⟨rfl, rfl⟩; refine gO ?_
 rcases hk with rfl | rfl
 ·simp only [seval, go_sem]
  refine gO ?_
  refine tT ?_; refine callP (rxcopy_i r _ z hq (by omega)) rfl rfl ?_; rintro v z2 hz2 ⟨A3, rfl, h3⟩; refine gO ?_
  (refine callT.give 90 4 2001 rfl rfl (fun b => ?_)); simp only [seval, go_sem, giveSt, subV, subC, subE, subL]
  refine tT ?_; (refine callM.pk 91 [90] ?_); dsimp only
  have hcall := hcl b z2 A3 h3 (hu.mono hz2) hI hf (.inl rfl)
  generalize rxHear c r ⟨1, seq, ack, poll, fin, say, seg, len, data⟩ = tp at hcall hgot ⊢
  obtain ⟨⟨e1, e2, ⟨e3, e4⟩, e5, e6, e7⟩, sdus, sys⟩ := tp
  dsimp only at hcall hgot ⊢
  refine tT ?_; refine callW 91 (hcall) rfl rfl rfl rfl ?_; rintro v z3 A' hz3 ⟨A4, k4, B5, n5, b5, D6, m6, d6, rfl, rfl, h4, h5, h6⟩; (try simp only [seval, go_sem])
  (refine vsI.tf (Tf.open' 91 [92] rfl rfl rfl) ?_); simp only [seval, go_sem, zipL]
  (refine vsI.take 92 4 2001 rfl rfl rfl ?_); simp only [seval, go_sem, takeSt, unV, vals]; refine gO ?_
  refine tT ?_; refine callP (rxcopy_i ⟨e1, e2, ⟨e3, e4⟩, e5, e6, e7⟩ _ z3 h4 (by show e4.length ≤ _; omega)) rfl rfl ?_; rintro v z4 hz4 ⟨A6, rfl, h7⟩; refine gO ?_
  (first|refine fN ?_|exact fZ)
  exact ⟨_, _, _, _, _, _, _, _, rfl, h7, h5.mono hz4, h6.mono hz4⟩
 ·simp only [seval, go_sem]
  refine gO ?_
  refine tT ?_; refine callP (rxcopy_i r _ z hq (by omega)) rfl rfl ?_; rintro v z2 hz2 ⟨A3, rfl, h3⟩; refine gO ?_
  (refine callT.give 90 4 2001 rfl rfl (fun b => ?_)); simp only [seval, go_sem, giveSt, subV, subC, subE, subL]
  refine tT ?_; (refine callM.pk 91 [90] ?_); dsimp only
  have hcall := hcl b z2 A3 h3 (hu.mono hz2) hI hf (.inr rfl)
  generalize rxHear c r ⟨2, seq, ack, poll, fin, say, seg, len, data⟩ = tp at hcall hgot ⊢
  obtain ⟨⟨e1, e2, ⟨e3, e4⟩, e5, e6, e7⟩, sdus, sys⟩ := tp
  dsimp only at hcall hgot ⊢
  refine tT ?_; refine callW 91 (hcall) rfl rfl rfl rfl ?_; rintro v z3 A' hz3 ⟨A4, k4, B5, n5, b5, D6, m6, d6, rfl, rfl, h4, h5, h6⟩; (try simp only [seval, go_sem])
  (refine vsI.tf (Tf.open' 91 [92] rfl rfl rfl) ?_); simp only [seval, go_sem, zipL]
  (refine vsI.take 92 4 2001 rfl rfl rfl ?_); simp only [seval, go_sem, takeSt, unV, vals]; refine gO ?_
  refine tT ?_; refine callP (rxcopy_i ⟨e1, e2, ⟨e3, e4⟩, e5, e6, e7⟩ _ z3 h4 (by show e4.length ≤ _; omega)) rfl rfl ?_; rintro v z4 hz4 ⟨A6, rfl, h7⟩; refine gO ?_
  (first|refine fN ?_|exact fZ)
  exact ⟨_, _, _, _, _, _, _, _, rfl, h7, h5.mono hz4, h6.mono hz4⟩
theorem rxack_i (r : Rx) (q : Value) (z : Zc) (hI : RxI r) (h : By z r.join.got q) : PSpec Tryz.prog 143 [vRx r q] z fun v z' => v = vFrm (rxAck r) (.slice none 0 0) ∧ z = z' := by
 have hro := rxok_i r q z hI h
 obtain ⟨A, k, rfl, hka, hB, hr⟩ := h.form
 refine eP k143 ?_
 refine gO ?_
 refine tT ?_; refine callP (hro) rfl rfl ?_; rintro _ _ - ⟨rfl, rfl⟩; refine gO ?_
 refine tT ?_; refine callP (gowait_i r.busy z) rfl rfl ?_; rintro _ _ - ⟨rfl, rfl⟩; refine gO ?_
 refine tT ?_; refine callP (say_i r A r.join.got.length k (goWait r.busy) false z) rfl rfl ?_; rintro _ _ - ⟨rfl, rfl⟩; refine gO ?_
 (first|refine fN ?_|exact fZ)
 exact ⟨rfl, trivial⟩
set_option maxHeartbeats 1000000
theorem scloneByO (l : List Int) (A : Option Addr) (c : Nat) (z : Zc) (h : By z l (.slice A l.length c)) (hb : l.length ≤ 1000000000) :
  Spec Tryz.prog 82 [.slice A l.length c] z emp fun v z' A' => ∃ A2 c2, v = .slice A2 l.length c2 ∧ l.length ≤ c2 ∧ A' = bysA l A2 c2 := by
 obtain ⟨A', c', e, hc, hB, hr⟩ := h.form
 injection e with e1 _ e3
 subst e1; subst e3
 by_cases hn : l = []
 ·subst hn
  have hbe : ∀ A c, bysA [] A c = starL [] := fun A c => by unfold bysA; rw [if_pos rfl]; rfl
  refine eA k82 ?_
  refine gO ?_
  (with_reducible refine condI.split (fun hg => ?_) (fun hg => ?_) <;> (try simp only [hg]) <;> (try simp only [seval, go_sem]))
  ·refine gO ?_
   refine FinV.tf (Tf.addE 90 rfl) ?_
   dsimp only
   (((try simp only [seval, go_sem]);repeat((with_reducible first|refine vJ ?_|refine vK ?_);try simp only [seval, go_sem])); refine FinV.own 90 rfl ?_; simp only [finE, finS, gt, look, SV.toV, SC.toV, allV, tupV, zq1, zq2, zq3, zq4, Nat.reduceAdd, Nat.reduceEqDiff, reduceCtorEq, if_true, if_false, reduceIte, Nat.succ_ne_self, true_and, zq5, zq7, zq8])
   exact ⟨none, 0, rfl, by omega, (hbe _ _).symm⟩
  ·refine gO ?_
   refine aT ?_; (refine appM_zero atyB (by first | exact .inl ⟨_, _, _, Nat.le_refl _, rfl⟩ | exact .inr ⟨_, _, rfl⟩) rfl ?_); refine gO ?_
   (refine FinV.frz 0 rfl rfl (fun b z1 hz1 hr1 => ?_)); dsimp only at hz1; simp only [seval, go_sem, Go.Proofs.YtllafcmkppmdgaaGreat.frz, subV, subC, subE, subL]
   refine FinV.tf (Tf.addE 90 rfl) ?_
   dsimp only
   (((try simp only [seval, go_sem]);repeat((with_reducible first|refine vJ ?_|refine vK ?_);try simp only [seval, go_sem])); refine FinV.own 90 rfl ?_; simp only [finE, finS, gt, look, SV.toV, SC.toV, allV, tupV, zq1, zq2, zq3, zq4, Nat.reduceAdd, Nat.reduceEqDiff, reduceCtorEq, if_true, if_false, reduceIte, Nat.succ_ne_self, true_and, zq5, zq7, zq8])
   exact ⟨_, _, rfl, by simp, (hbe _ _).symm⟩
 ·have hpos : 0 < l.length := List.length_pos_iff.2 hn
  have hbe : ∀ A c, bysA l A c = rowA tyB 1 (.slice A l.length c) l.length (bc l) := fun A c => by unfold bysA; rw [if_neg hn]
  refine eA k82 ?_
  refine gO ?_
  (with_reducible refine condI.split (fun hg => ?_) (fun hg => ?_) <;> (try simp only [hg]) <;> (try simp only [seval, go_sem]))
  ·exfalso
   cases A with
   | none => obtain ⟨b, o, e, _⟩ := hr (by rw [Ne, ← List.length_eq_zero_iff]; simp; exact hn); cases e
   | some a => simp at hg
  ·refine gO ?_
   refine aT ?_; (refine appM_emptyO 90 atyB rfl (by first | exact .inl ⟨_, rfl⟩ | exact .inr ⟨_, _, rfl⟩) rfl (hr) (by first | omega | (simp <;> omega)) (bc_one _) (by omega) (by omega) (fun A2 c2 hc2 => ?_)); refine gO ?_
   (((try simp only [seval, go_sem]);repeat((with_reducible first|refine vJ ?_|refine vK ?_);try simp only [seval, go_sem])); refine FinV.own 90 rfl ?_; simp only [finE, finS, gt, look, SV.toV, SC.toV, allV, tupV, zq1, zq2, zq3, zq4, Nat.reduceAdd, Nat.reduceEqDiff, reduceCtorEq, if_true, if_false, reduceIte, Nat.succ_ne_self, true_and, zq5, zq7, zq8])
   exact ⟨A2, c2, rfl, hc2, (hbe _ _).symm⟩
theorem cloneByO (l : List Int) (v : Value) (z : Zc) (h : By z l v) (hb : l.length ≤ 1000000000) :
  Spec Tryz.prog 56 [v] z emp fun v' z' A' => ∃ A2, v' = .slice A2 l.length l.length ∧ A' = bysA l A2 l.length := by
 obtain ⟨A, c, rfl, hc, hB, hr⟩ := h.form
 refine eA k56 ?_
 refine gO ?_
 refine tT ?_; refine callO 90 (scloneByO l A c z h hb) rfl rfl rfl ?_; rintro v z1 A' hz1 ⟨A2, c2, rfl, hc2, rfl⟩; refine gO ?_
 refine tT ?_; refine callP (sclipB A2 l.length c2 z1 hc2 hb) rfl rfl ?_; rintro v z2 hz2 rfl; refine gO ?_
 by_cases hn : l = []
 ·subst hn
  (((try simp only [seval, go_sem]);repeat((with_reducible first|refine vJ ?_|refine vK ?_);try simp only [seval, go_sem])); refine FinV.own 90 rfl ?_; simp only [finE, finS, gt, look, SV.toV, SC.toV, allV, tupV, zq1, zq2, zq3, zq4, Nat.reduceAdd, Nat.reduceEqDiff, reduceCtorEq, if_true, if_false, reduceIte, Nat.succ_ne_self, true_and, zq5, zq7, zq8])
  exact ⟨_, rfl, by unfold bysA; rw [if_pos rfl, if_pos rfl]⟩
 ·have hbe : ∀ A c, bysA l A c = rowA tyB 1 (.slice A l.length c) l.length (bc l) := fun A c => by unfold bysA; rw [if_neg hn]
  simp only [hbe]
  refine FinV.tf (Tf.cut 90 rfl rfl 0 l.length l.length (by omega) (by omega) (by omega) (by omega) (.inl rfl)) ?_
  (((try simp only [seval, go_sem]);repeat((with_reducible first|refine vJ ?_|refine vK ?_);try simp only [seval, go_sem])); refine FinV.own 90 rfl ?_; simp only [finE, finS, gt, look, SV.toV, SC.toV, allV, tupV, zq1, zq2, zq3, zq4, Nat.reduceAdd, Nat.reduceEqDiff, reduceCtorEq, if_true, if_false, reduceIte, Nat.succ_ne_self, true_and, zq5, zq7, zq8])
  exact ⟨_, rfl, by rw [List.take_of_length_le (by simp)]⟩
theorem crcPutO_i (l : List Int) (v : Value) (z : Zc) (h : By z l v) (hl : l.length ≤ 100000000) : Spec Tryz.prog 80 [v] z emp fun v z' A' => ∃ A, v = .slice A (crcPut l).length (crcPut l).length ∧ A' = bysA (crcPut l) A (crcPut l).length := by
 obtain ⟨A, c, rfl, hc, hB, hr⟩ := h.form
 have hlt := crcOf_lt hB
 refine eA k80 ?_
 refine gO ?_
 refine tT ?_; refine callP (crcOf_i l _ z h (by omega)) rfl rfl ?_; rintro _ _ - ⟨rfl, rfl⟩; refine gO ?_
 refine tT ?_; refine callP (cloneBy l _ z h (by omega)) rfl rfl ?_; rintro v z1 hz1 ⟨A1, rfl, _, hr1⟩; refine gO ?_
 refine aT ?_; (refine appM_fullN 99 atyB rfl rfl hr1 (by first | omega | (simp <;> omega)) rfl rfl rfl rfl (by simp [Value.oneCell']) (by omega) (fun A2 c2 z2 hz2 hc2 hr2 => ?_)); dsimp only at hz2; refine gO ?_
 rw [crcPut_bi l hlt] at hr2
 have h2 : By z2 (crcPut l) (.slice A2 (l.length + 2) c2) := by rw [← crcPut_length]; exact By.mk (by rw [crcPut_length]; exact hc2) hB.crcPut hr2
 refine tT ?_; refine callO 90 (cloneByO (crcPut l) _ z2 h2 (by rw [crcPut_length]; omega)) rfl rfl rfl ?_; rintro v z3 A' hz3 ⟨A3, rfl, rfl⟩; refine gO ?_
 (((try simp only [seval, go_sem]);repeat((with_reducible first|refine vJ ?_|refine vK ?_);try simp only [seval, go_sem])); refine FinV.own 90 rfl ?_; simp only [finE, finS, gt, look, SV.toV, SC.toV, allV, tupV, zq1, zq2, zq3, zq4, Nat.reduceAdd, Nat.reduceEqDiff, reduceCtorEq, if_true, if_false, reduceIte, Nat.succ_ne_self, true_and, zq5, zq7, zq8])
 exact ⟨_, rfl, rfl⟩
theorem frmBytesO_i (f : Frm) (v : Value) (z : Zc) (h : By z f.data v) (hl : f.data.length ≤ 100000) (hf : frmOk f = true) : Spec Tryz.prog 58 [vFrm f v] z emp fun v z' A' => ∃ A, v = .slice A (frmBytes f).length (frmBytes f).length ∧ A' = bysA (frmBytes f) A (frmBytes f).length := by
 obtain ⟨A, c, rfl, hc, hB, hr⟩ := h.form
 have hfo := frmOk_i f _ z h (by omega)
 rw [hf] at hfo
 rw [frmBytes_ok hf]
 refine eA k58 ?_
 refine gO ?_
 refine tT ?_; refine callP (hfo) rfl rfl ?_; rintro _ _ - ⟨rfl, rfl⟩; refine gO ?_
 refine tT ?_; refine callP (truth_i _ _) rfl rfl ?_; rintro _ _ - ⟨rfl, rfl⟩; refine gO ?_
 refine tT ?_; refine callP (truth_i _ _) rfl rfl ?_; rintro _ _ - ⟨rfl, rfl⟩; refine gO ?_
 (refine appT.toRow 90 1 (m := 5) (sz := 1) rfl rfl rfl (by omega) (fun b => ?_)); simp only [seval, go_sem, rowSt, subV, subC, subE, subL]
 refine aT ?_; (refine appM_row 90 atyB rfl rfl rfl rfl hr (by first | omega | simp) (bc_one _) (by omega) (fun v1 => ?_)); refine gO ?_
 (first | refine callT.frzR 90 rfl (fun A2 c2 z2 hv2 hc2 hz2 hr2 => ?_) | refine callM.frzR 90 rfl (fun A2 c2 z2 hv2 hc2 hz2 hr2 => ?_)); dsimp only at hz2; subst hv2; simp only [seval, go_sem]
 have h2 : By z2 (frmHead f ++ f.data) (.slice A2 (5 + f.data.length) c2) := head_by hf hB hc2 (head_bc hf) hr2 rfl
 refine tT ?_; refine callO 91 (crcPutO_i _ _ z2 h2 (by simp [frmHead]; omega)) rfl rfl rfl ?_; rintro v z3 A' hz3 ⟨A3, rfl, rfl⟩; refine gO ?_
 (((try simp only [seval, go_sem]);repeat((with_reducible first|refine vJ ?_|refine vK ?_);try simp only [seval, go_sem])); refine FinV.own 91 rfl ?_; simp only [finE, finS, gt, look, SV.toV, SC.toV, allV, tupV, zq1, zq2, zq3, zq4, Nat.reduceAdd, Nat.reduceEqDiff, reduceCtorEq, if_true, if_false, reduceIte, Nat.succ_ne_self, true_and, zq5, zq7, zq8])
 exact ⟨_, rfl, rfl⟩
set_option maxHeartbeats 4000000
set_option linter.defProp false
def k106 := mkK [(.t 4)] [] [] Tryz.func106 Tryz.ntmps106 rfl
def k137 := mkK [] [1000030] [(4,[],.f [0,4,8,13,16,20,24,28,32,37,40,44,48,57] (.l [54,62,64,70,74,76,83]) (.f [62,64] (.l [54,70,74,76,83]) (.l [70,54,74,76,83])))] Tryz.func137 Tryz.ntmps137 rfl
def k140 := mkK [] [] [] Tryz.func140 Tryz.ntmps140 rfl
def k107 := mkK [] [1000036, 1000049, 1000077, 1000082, 1000108, 1000113, 1000118, 1000139, 1000173, 137] [(1,[],.l [0,4,8,13,16,21,24,28]),(5,[],.l [0,4,8,12,17,20,24,28,36,41,34,46,48,52,56,60,64,71,72]),(7,[],.f [0,4,8,12,20,25] (.l [18,30,34,38,40,44,51]) (.f [30] (.l [18,34,38,40,44,51]) (.l [34,18,38,40,44,51]))),(9,[5],.f [0,4,8,12,17,20,24,28,36,40,44,48] (.l [34,54,58,60,64,68,72,76,80,87,91,92]) (.l [54,34,58,60,64,68,72,76,80,87,91,92])),(12,[5],.f [0,4,8,12,17,20,24,28,36,40,44,48,56,60,64,68] (.f [34] (.l [54,74,78,80,84,88,92,96,100,107,111,112]) (.l [74,54,78,80,84,88,92,96,100,107,111,112])) (.f [] (.f [54] (.l [34,74,78,80,84,88,92,96,100,107,111,112]) (.l [74,34,78,80,84,88,92,96,100,107,111,112])) (.f [74] (.l [34,54,78,80,84,88,92,96,100,107,111,112]) (.l [54,34,78,80,84,88,92,96,100,107,111,112])))),(15,[],.f [0,4,8,16,21,24] (.f [14] (.l [30,32,36,40,46,51,52]) (.l [46,30,32,36,40,51,52])) (.l [46,14,30,32,36,40,51,52])),(19,[],.l [0,4,9,12,16,20,26,30,34,39])] Tryz.func107 Tryz.ntmps107 rfl
def k108 := mkK [] [1000034, 1000047, 1000075] [(1,[],.l [0,4,8,13,16,21,24,28]),(5,[],.l [0,4,8,12,17,20,24,28,36,41,34,46,48,52,56,60,64,71,72]),(7,[],.f [0,4,8,12,20,25] (.l [18,30,34,38,40,44,51]) (.f [30] (.l [18,34,38,40,44,51]) (.l [34,18,38,40,44,51]))),(9,[5],.l [0,4,8,12,17,20,24,28,34,38,40,44,48,52,56,60,67,71,72])] Tryz.func108 Tryz.ntmps108 rfl
def k105 := mkK [] [1000036, 1000073, 1000087, 1000111, 1000134] [(1,[],.l [0,4,8,13,16,20,24,28,33,36,40,46,48,52,59]),(8,[],.l [0,4,8,12,17,20,24,28,37,34,42,44,48,55]),(9,[],.l [0,4,8,12,17,20,24,28,37,34,42,44,48,52,56,60,64,71,72,76]),(11,[],.l [0,4,8,12,17,20,24,28,36,41,34,46,48,52,59]),(13,[],.l [0,4,8,12,17,20,24,28,37,34,42,44,48,52,56,60,67,68])] Tryz.func105 Tryz.ntmps105 rfl
def k66 := mkK [] [1000062, 1000075, 1000081, 1000129, 1000085] [(2,[],.l [0,4,8,13,16,21,24,28]),(10,[],.l [0,5,8,12,16,22,24,28,34,36,40,45,50,52,56,60,64,68,74,76,80]),(11,[],.l [0,4,8,16,21,32,37,40,14,24,30,44,48,55]),(17,[],.f [0,4,8,16,21] (.l [14,26,28,34,38,40,47]) (.f [26,28] (.l [14,34,38,40,47]) (.l [34,14,38,40,47])))] Tryz.func66 Tryz.ntmps66 rfl
set_option maxHeartbeats 1000000
abbrev tyW : Nat := 31
structure EndB (z : Zc) (e : End) (m : EndM) : Prop where
 fl : Sl pRep z e.tx.flight (.slice m.fA e.tx.flight.length m.fC)
 qu : Sl pRep z e.tx.queue (.slice m.qA e.tx.queue.length m.qC)
 pu : Els sduRep z e.put m.pV
 pc : e.put.length ≤ m.pC
 go : Els sduRep z e.got m.gV
 gc : e.got.length ≤ m.gC
 jo : By z e.rx.join.got (.slice m.jA e.rx.join.got.length m.jC)
 cq : Sl pRep z e.ctx.queue (.slice m.cA e.ctx.queue.length m.cC)
 kj : By z e.crx.join.got (.slice m.kA e.crx.join.got.length m.kC)
theorem EndB.mono {z z' : Zc} {e : End} {m : EndM} (hz : z ≤ z') (h : EndB z e m) : EndB z' e m := ⟨h.fl.mono hz, h.qu.mono hz, h.pu.mono hz, h.pc, h.go.mono hz, h.gc, Sl.mono hz h.jo, h.cq.mono hz, Sl.mono hz h.kj⟩
structure WldB (z : Zc) (e0 e1 : End) (n0 n1 : List Msg) (m : WM) : Prop where
 e0 : EndB z e0 m.m0
 e1 : EndB z e1 m.m1
 n0 : NetR n0 m.n0
 n1 : NetR n1 m.n1
theorem WldB.mono {z z' : Zc} {e0 e1 : End} {n0 n1 : List Msg} {m : WM} (hz : z ≤ z') (h : WldB z e0 e1 n0 n1 m) : WldB z' e0 e1 n0 n1 m := ⟨h.e0.mono hz, h.e1.mono hz, h.n0, h.n1⟩
abbrev wldL (e0 e1 : End) (n0 n1 : List Msg) (m : WM) : List Asrt := [rowA tyE 28 (.slice m.E 2 m.EC) 2 (endsC e0 e1 m.m0 m.m1), rowA tyN 1 (.slice m.N 2 m.NC) 2 [.slice m.n0.A n0.length m.n0.C, .slice m.n1.A n1.length m.n1.C],
 rowA tyS 1 (.slice m.m0.pA e0.put.length m.m0.pC) e0.put.length m.m0.pV, rowA tyS 1 (.slice m.m0.gA e0.got.length m.m0.gC) e0.got.length m.m0.gV, rowA tyS 1 (.slice m.m1.pA e1.put.length m.m1.pC) e1.put.length m.m1.pV, rowA tyS 1 (.slice m.m1.gA e1.got.length m.m1.gC) e1.got.length m.m1.gV,
 rowA tyM 2 (.slice m.n0.A n0.length m.n0.C) n0.length (netV n0 m.n0.ms), starL (netB n0 m.n0.ms), rowA tyM 2 (.slice m.n1.A n1.length m.n1.C) n1.length (netV n1 m.n1.ms), starL (netB n1 m.n1.ms)]
abbrev wldC (c : Cfg) (link : Int) (m : WM) : List Value := [.int .i64 c.mode, .int .i64 c.win, .int .i64 c.mps, .int .i64 c.mtu, .int .i64 c.tri, .slice m.E 2 m.EC, .slice m.N 2 m.NC, .int .i64 link]
abbrev wldP (b : Nat) (c : Cfg) (link : Int) (e0 e1 : End) (n0 n1 : List Msg) (m : WM) : Asrt := starL (ptrA tyW b (wldC c link m) :: wldL e0 e1 n0 n1 m)
def WldQ (c : Cfg) (w : Wld) (b : Nat) (z : Zc) (A : Asrt) : Prop := ∃ e0 e1 n0 n1 m link, w = ⟨c, [e0, e1], [n0, n1], link⟩ ∧ A = wldP b c link e0 e1 n0 n1 m ∧ WldB z e0 e1 n0 n1 m
theorem WldQ.mk {c : Cfg} {e0 e1 : End} {n0 n1 : List Msg} {m : WM} {link : Int} {z : Zc} {b : Nat} (h : WldB z e0 e1 n0 n1 m) : WldQ c ⟨c, [e0, e1], [n0, n1], link⟩ b z (wldP b c link e0 e1 n0 n1 m) := ⟨e0, e1, n0, n1, m, link, rfl, rfl, h⟩
theorem room0 (b : Nat) (c : Cfg) (link : Int) (e0 e1 : End) (n0 n1 : List Msg) (m : WM) (z : Zc) (h30 : n0.length ≤ 1000) :
  Spec Tryz.prog 106 [.pointer (some ⟨b, 0, none⟩), .int .i64 0] z (wldP b c link e0 e1 n0 n1 m) fun v z' A' => v = .bool (decide (n0.length < 30)) ∧ A' = wldP b c link e0 e1 n0 n1 m ∧ z = z' := by
 refine eQ kyI k106 ?_
 refine vsI.atR 11 rfl fun hN => ?_
 have hN := hN (by omega)
 refine gO ?_
 ((first | refine ⟨⟨by omega, hN⟩, ?_⟩ | refine ⟨hN, ?_⟩); (try simp only [seval, go_sem]))
 (refine ldF.one _ (RdS.cell 11 rfl rfl) ?_; refine gO ?_)
 refine wF1 ?_
 refine ⟨congrArg Value.bool ?_, trivial⟩
 rw [Bool.eq_iff_iff, decide_eq_true_iff, decide_eq_true_iff]
 omega
theorem room1 (b : Nat) (c : Cfg) (link : Int) (e0 e1 : End) (n0 n1 : List Msg) (m : WM) (z : Zc) (h30 : n1.length ≤ 1000) :
  Spec Tryz.prog 106 [.pointer (some ⟨b, 0, none⟩), .int .i64 1] z (wldP b c link e0 e1 n0 n1 m) fun v z' A' => v = .bool (decide (n1.length < 30)) ∧ A' = wldP b c link e0 e1 n0 n1 m ∧ z = z' := by
 refine eQ kyI k106 ?_
 refine vsI.atR 11 rfl fun hN => ?_
 have hN := hN (by omega)
 refine gO ?_
 ((first | refine ⟨⟨by omega, hN⟩, ?_⟩ | refine ⟨hN, ?_⟩); (try simp only [seval, go_sem]))
 (refine ldF.one _ (RdS.cell 11 rfl rfl) ?_; refine gO ?_)
 refine wF1 ?_
 refine ⟨congrArg Value.bool ?_, trivial⟩
 rw [Bool.eq_iff_iff, decide_eq_true_iff, decide_eq_true_iff]
 omega
set_option maxHeartbeats 4000000
def k16 := mkK [(.c 2 8 true)] [] [(3,[2],.f [1] (.l [6,10,12,18]) (.l [10,6,12,18]))] Tryz.func16 Tryz.ntmps16 rfl
def k65 := mkK [(.c 2 8 true)] [1000079] [(1,[],.f [0,5,8,13,16,24,29,32,40,45] (.f [22] (.l [38,48,54,59]) (.l [54,38,48,59])) (.f [] (.f [38] (.l [22,48,54,59]) (.l [54,22,48,59])) (.f [54] (.l [22,38,48,59]) (.l [38,22,48,59])))),(5,[],.l [0,5,8,12,17,24,29,36,41,48,53,60,65,72,77,22,34,46,58,70,82,84,88,95]),(10,[],.l [0,5,8,12,18,20,27]),(14,[],.f [0,5,8,12,20,24,29] (.l [18,34,36,40,47]) (.l [34,18,36,40,47]))] Tryz.func65 Tryz.ntmps65 rfl
def k18 := mkK [(.t 2)] [] [] Tryz.func18 Tryz.ntmps18 rfl
def k45 := mkK [(.t 2)] [] [] Tryz.func45 Tryz.ntmps45 rfl
def k37 := mkK [(.c 4 8 true)] [] [] Tryz.func37 Tryz.ntmps37 rfl
def k17 := mkK [(.c 4 8 true)] [] [] Tryz.func17 Tryz.ntmps17 rfl
end Go.Proofs.YtllafcmkppmdgaaGreat
