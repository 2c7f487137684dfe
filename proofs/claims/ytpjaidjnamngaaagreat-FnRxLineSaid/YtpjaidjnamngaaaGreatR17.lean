/- Credits on a link that loses nothing: all comes, in order. Plain lists and numbers. · What is drawn to happen to two ends, on a link that keeps all. · One takes a message by numbers, by the reference. · One sends, or asks, by numbers, by the reference. · Frames go on their way, by the reference. -/
import Derived.Test.YtpjaidjnamngaaaGreatR11
import Derived.Test.YtpjaidjnamngaaaGreatR16
import Derived.Test.YtpjaidjnamngaaaGreatR15
import Derived.Test.YtpjaidjnamngaaaGreatR13
import Derived.Test.YtpjaidjnamngaaaGreatR5
import Derived.Test.YtpjaidjnamngaaaGreatR14
namespace Go.Proofs.YtpjaidjnamngaaaGreat
set_option linter.unusedVariables false
set_option linter.unusedSimpArgs false
structure LineI (c : Cfg) (t : CTx) (r : CRx) (put got : List (List Int)) : Prop where
  tx : CTxI c t
  rx : CRxI r
  td : t.dead = false
  rd : r.dead = false
  out : r.out = t.hav
  hav : 0 ≤ t.hav ∧ t.hav ≤ 6
  mtu : ∀ m ∈ put, (m.length : Int) ≤ c.mtu
  del : ∃ del, pieces c.mps put = del ++ t.queue ∧ joins del = some (r.join, got) ∧ t.sent = del.length
theorem LineI.start {c : Cfg} (h : CfgI c) : LineI c ctx0 crx0 [] [] := by
  refine ⟨⟨h, by decide, by decide, by decide, rfl, by decide, fun p hp => absurd hp List.not_mem_nil⟩, crxOk_iff.1 rfl, rfl, rfl, rfl, by decide, fun m hm => absurd hm List.not_mem_nil, [], rfl, rfl, rfl⟩
theorem LineI.m24 {c : Cfg} {t : CTx} {r : CRx} {put got : List (List Int)} (h : LineI c t r put got) : ∀ m ∈ put, m.length ≤ 24 := fun m hm => by
  have := h.mtu m hm; have := h.tx.cfg.mtu; omega
theorem LineI.sent {c : Cfg} {t : CTx} {r : CRx} {put got : List (List Int)} (h : LineI c t r put got) : t.sent + t.queue.length ≤ put.length * 24 := by
  obtain ⟨del, h1, h2, h3⟩ := h.del
  have := pieces_length c.mps put
  rw [h1, List.length_append] at this
  omega
theorem LineI.put {c : Cfg} {t : CTx} {r : CRx} {put got : List (List Int)} (h : LineI c t r put got) (d : List Int) (hq : t.queue = []) : LineI c (crdPutG c t d).1 r (if (crdPutG c t d).2 = true then put ++ [d] else put) got ∧ (crdPutG c t d).1.queue.length ≤ 24 := by
  have hok := ctxOk_iff.2 h.tx
  by_cases k : t.dead = true ∨ (d.length : Int) > c.mtu ∨ t.queue.length + (segCut d c.mps).length > 24
  · rw [crdPutG_same hok k]
    exact ⟨by simpa using h, by rw [hq]; simp⟩
  · simp only [not_or] at k
    rw [crdPutG_yes hok h.td (by omega) (by omega)]
    have hq2 : t.queue.length + (segCut d c.mps).length ≤ 24 := by omega
    refine ⟨⟨⟨h.tx.cfg, h.tx.hav, h.tx.granted, h.tx.sent, h.tx.sum, by simp only [List.length_append]; omega, h.tx.qu.append (segCut_parts d)⟩, h.rx, h.td, h.rd, h.out, h.hav, ?_, ?_⟩, by simp only [List.length_append]; omega⟩
    · intro m hm
      simp only [if_true] at hm
      rcases List.mem_append.1 hm with hm | hm
      · exact h.mtu m hm
      · rw [List.mem_singleton.1 hm]; omega
    · obtain ⟨del, h1, h2, h3⟩ := h.del
      refine ⟨del, ?_, h2, h3⟩
      simp only [if_true]
      rw [pieces_snoc, h1, List.append_assoc]
theorem pieces_lmem {most : Int} {put : List (List Int)} {p : Part} (hp : p ∈ pieces most put) : partOk p = true ∧ (p.data.length : Int) ≤ most ∧ ∃ m ∈ put, p.len ≤ m.length := by
  unfold pieces at hp
  obtain ⟨m, hm, hp⟩ := List.mem_flatMap.1 hp
  obtain ⟨h1, h2, h3, _⟩ := segCut_mem hp
  exact ⟨h1, h2, m, hm, h3⟩
theorem LineI.send {c : Cfg} {t : CTx} {r : CRx} {put got : List (List Int)} (h : LineI c t r put got) (h0 : t.hav ≠ 0) (hp : put.length ≤ 140) {p : Part} {q : List Part} (hq : t.queue = p :: q) :
    crdSendG c t = ({ t with queue := q, hav := t.hav - 1, sent := t.sent + 1 }, some ⟨3, 0, 0, false, false, 0, p.seg, p.len, p.data⟩) ∧
    (LineI c { t with queue := q, hav := t.hav - 1, sent := t.sent + 1 } (crdHearG c r ⟨3, 0, 0, false, false, 0, p.seg, p.len, p.data⟩).1 put (got ++ (crdHearG c r ⟨3, 0, 0, false, false, 0, p.seg, p.len, p.data⟩).2)) ∧ (crdHearG c r ⟨3, 0, 0, false, false, 0, p.seg, p.len, p.data⟩).2.length ≤ 1 := by
  have hs := h.sent
  have hsum := h.tx.sum
  have hg := h.tx.granted
  have hh := h.hav
  obtain ⟨del, h1, h2, h3⟩ := h.del
  rw [hq] at h1
  have hmem : p ∈ pieces c.mps put := by rw [h1]; simp
  obtain ⟨m1, m2, m, m3, m4⟩ := pieces_lmem hmem
  have hmtu := h.mtu m m3
  have hpo : pieceOk p.seg p.len p.data.length = true := m1
  have hfo : frmOk ⟨3, 0, 0, false, false, 0, p.seg, p.len, p.data⟩ = true := by rw [(frmOk_k _).2.2.1 rfl]; simp [hpo]
  have hjn := joins_next (b := del.length) (p := p) (joins_pieces h.tx.cfg.mps.1 h.tx.cfg.mps.2 h.m24) (by rw [h1]; simp) (s := (r.join, got)) (by rw [h1]; simpa using h2)
  obtain ⟨j1, j2⟩ := hjn
  have hnx : crdHear c r ⟨3, 0, 0, false, false, 0, p.seg, p.len, p.data⟩ = _ := crdHear_yes h.rd (by
    have := h.out
    simp only [not_or]
    refine ⟨by omega, by omega, by omega⟩) j1
  have hok := crdHear_ok (c := c) (f := ⟨3, 0, 0, false, false, 0, p.seg, p.len, p.data⟩) h.rx hpo
  have hG : crdHearG c r ⟨3, 0, 0, false, false, 0, p.seg, p.len, p.data⟩ = crdHear c r ⟨3, 0, 0, false, false, 0, p.seg, p.len, p.data⟩ := crdHearG_ok ⟨cfgOk_iff.2 h.tx.cfg, crxOk_iff.2 h.rx, rfl, hfo⟩
  refine ⟨crdSendG_yes (ctxOk_iff.2 h.tx) h.td h0 hq (by have := h.tx.sent; rw [hq] at hs; simp at hs; omega), ?_, by rw [hG]; exact hok.2.2⟩
  rw [hG]
  have hqu := h.tx.qu
  have hq24 := h.tx.queue
  rw [hq] at hqu hq24 hs
  simp only [List.length_cons] at hq24 hs
  have hsn := h.tx.sent
  refine ⟨⟨h.tx.cfg, by simp only; omega, h.tx.granted, by simp only; omega, by simp only; omega, by simp only; omega, fun x hx => hqu x (List.mem_cons_of_mem _ hx)⟩, hok.1, h.td, by rw [hnx], by rw [hnx]; simp only; rw [h.out], by simp only; omega, h.mtu, del ++ [p], by rw [h1]; simp, ?_, by simp only [List.length_append, List.length_singleton]; omega⟩
  have e : (pieces c.mps put).take (del.length + 1) = del ++ [p] := by rw [h1, List.take_append]; simp [List.take_of_length_le]
  rw [← e, j2, hnx]
  simp only
  split
  · rfl
  · simp
theorem LineI.all {c : Cfg} {t : CTx} {r : CRx} {put got : List (List Int)} (h : LineI c t r put got) (hq : t.queue = []) : got = put := by
  obtain ⟨del, h1, h2, h3⟩ := h.del
  rw [hq, List.append_nil] at h1
  rw [← h1, joins_pieces h.tx.cfg.mps.1 h.tx.cfg.mps.2 h.m24] at h2
  injection h2 with h2
  injection h2 with _ h2
  exact h2.symm
theorem LineI.got {c : Cfg} {t : CTx} {r : CRx} {put got : List (List Int)} (h : LineI c t r put got) : got.length ≤ put.length := by
  obtain ⟨del, h1, h2, h3⟩ := h.del
  obtain ⟨s, k1, x, k2⟩ := joins_take (joins_pieces h.tx.cfg.mps.1 h.tx.cfg.mps.2 h.m24) del.length
  have e : (pieces c.mps put).take del.length = del := by rw [h1]; simp
  rw [e, h2] at k1
  injection k1 with k1
  subst k1
  rw [k2]; simp
open Go.RowKit
set_option maxRecDepth 100000
set_option maxHeartbeats 4000000
def eRep : Rep Evt where
  sz := 5
  K := fun z e cs => ∃ v, cs = [.int .i64 e.kind, .int .i64 e.who, .int .i64 e.at_, .int .i64 e.v, v] ∧ By z e.data v
  len := by rintro z x cs ⟨v, rfl, _⟩; rfl
  one := by rintro z x cs ⟨v, rfl, h⟩ u hu; simp at hu; rcases hu with rfl | rfl | rfl | rfl | rfl; rfl; rfl; rfl; rfl; exact h.one
  mono := by rintro z z' x cs hz ⟨v, rfl, h⟩; exact ⟨v, rfl, Sl.mono hz h⟩
theorem WldR.mono {z z' : Zc} {e0 e1 : End} {n0 n1 : List Msg} {m : WM} (hz : z ≤ z') (h : WldR z e0 e1 n0 n1 m) : WldR z' e0 e1 n0 n1 m := ⟨h.e0.mono hz, h.e1.mono hz, h.n0, h.n1⟩
theorem atyV : AppTy Tryz.prog 25 37 5 := AppTy.of (by kernel_rfl)
structure PlayS where
  k : Nat
  p : Int
  evs : List Evt
  cs : List Value
  A : Option Addr
  C : Nat
  e0 : End
  e1 : End
  n0 : List Msg
  n1 : List Msg
  link : Int
  m : WM
  z : Zc
theorem wldH_of {c : Cfg} {w : Wld} {u : Value} {z : Zc} {A : Asrt} (h : WldH c w u z A) (hI : WldI w) : ∃ e0 e1 n0 n1 m link, u = wldV c link m ∧ A = wldA e0 e1 n0 n1 m ∧ WldR z e0 e1 n0 n1 m ∧ WldI ⟨c, [e0, e1], [n0, n1], link⟩ := by
  obtain ⟨e0, e1, n0, n1, m, h1, h2, h3, h4, h5, h6⟩ := h
  obtain ⟨c', es, ns, link⟩ := w
  dsimp only at h1 h2 h3 h4
  subst h1 h2 h3
  exact ⟨e0, e1, n0, n1, m, link, h4, h5, h6, hI⟩
set_option maxHeartbeats 1000000
theorem txPut_fl (c : Cfg) (t : Tx) (sdu : List Int) : (txPut c t sdu).1.flight = t.flight := by unfold txPut; split; rfl; split <;> rfl
theorem l9put_n0 (c : Cfg) (link : Int) (e0 e1 : End) (n0 n1 : List Msg) (m : WM) (sdu : List Int) (v : Value) (z : Zc) (hR : WldR z e0 e1 n0 n1 m) (hI : EndI c e0) (hv : By z sdu v) (hs : sdu.length ≤ 100000) (hm : c.mode = 1) (h60 : e0.put.length < 60) :
    Spec Tryz.prog 86 [wldV c link m, .int .i64 0, v] z (wldA e0 e1 n0 n1 m) fun u z' A' => ∃ e', e' = putM c e0 sdu ∧ WldH c ⟨c, [e0, e1].set 0 e', [n0, n1], link⟩ u z' A' := by
  obtain ⟨Av, kv, rfl, hkv, hBv, hrv⟩ := hv.form
  have hq24 := hI.tx.queue
  have hmps := hI.tx.cfg.mps
  (refine spec_enterL [10, 11, 20, 21, 22, 23, 30, 31, 32, 33, 40, 41, 50, 51] Tryz.func86 ic86_ok fr86_ok Tryz.ntmps86 rfl ?_; simp only [seval, go_sem, ic86, fr86, zipL])
  refine vsI.atR 10 rfl fun hE => ?_
  have hE := hE (by omega)
  ((try simp only [seval, go_sem]);repeat((with_reducible first|refine vJ ?_|refine vK ?_);try simp only [seval, go_sem]))
  ((first | refine ⟨⟨by omega, hE⟩, ?_⟩ | refine ⟨hE, ?_⟩); (try simp only [seval, go_sem]))
  (refine ldF.agg (sz := 28) _ rfl (by exact .inr ⟨10, _, _, _, _, _, rfl, fun i u hu => ends_get0 hu⟩) ?_; simp only [seval, go_sem, endC]; ((try simp only [seval, go_sem]);repeat((with_reducible first|refine vJ ?_|refine vK ?_);try simp only [seval, go_sem])))
  (with_reducible refine condI.split (fun hg => ?_) (fun hg => ?_) <;> (try simp only [hg]) <;> (try simp only [seval, go_sem]))
  · exfalso
    simp at hg
    omega
  · ((try simp only [seval, go_sem]);repeat((with_reducible first|refine vJ ?_|refine vK ?_);try simp only [seval, go_sem]))
    (with_reducible refine condI.split (fun hg => ?_) (fun hg => ?_) <;> (try simp only [hg]) <;> (try simp only [seval, go_sem]))
    · have hc := l6put c e0.tx sdu m.m0.fA m.m0.qA m.m0.fC m.m0.qC m.m0.qV _ z hv hs (by omega) (by omega) hR.e0.qu hR.e0.qc
      have hfl := txPut_fl c e0.tx sdu
      have hput : putM c e0 sdu = { e0 with tx := (txPut c e0.tx sdu).1, put := if (txPut c e0.tx sdu).2 then e0.put ++ [sdu] else e0.put } := by unfold putM; rw [if_pos hm]
      generalize txPut c e0.tx sdu = tp at hc hfl hput
      obtain ⟨⟨next, acked, fl, sent, qu, asks, tries, held, count, dead⟩, ok⟩ := tp
      dsimp only at hfl hc hput
      subst hfl
      (try with_reducible refine callM.toT ?_); refine callW 21 (hc) rfl rfl rfl rfl ?_; rintro u z1 A' hz1 ⟨A3, b3, ds3, rfl, rfl, hb3, hd3⟩; ((try simp only [seval, go_sem]);repeat((with_reducible first|refine vJ ?_|refine vK ?_);try simp only [seval, go_sem]))
      have hR1 : WldR z1 e0 e1 n0 n1 m := ⟨hR.e0.mono hz1, hR.e1.mono hz1, hR.n0, hR.n1⟩
      ((first | refine ⟨⟨by omega, hE⟩, ?_⟩ | refine ⟨hE, ?_⟩); (try simp only [seval, go_sem]))
      (refine stoV_row 10 rfl rfl rfl rfl rfl rfl rfl (by rw [endsC_len]; simp) ?_; simp only [seval, go_sem, ends_tx0]; ((try simp only [seval, go_sem]);repeat((with_reducible first|refine vJ ?_|refine vK ?_);try simp only [seval, go_sem])))
      cases ok
      · ((try simp only [seval, go_sem]);repeat((with_reducible first|refine vJ ?_|refine vK ?_);try simp only [seval, go_sem]))
        (refine FinV.pk 999 [10, 11, 20, 21, 22, 23, 30, 31, 32, 33, 40, 41, 50, 51] ?_); dsimp only
        (((try simp only [seval, go_sem]);repeat((with_reducible first|refine vJ ?_|refine vK ?_);try simp only [seval, go_sem])); refine FinV.own 999 rfl ?_; simp only [finE, finS, gt, look, SV.toV, SC.toV, allV, tupV, zq1, zq2, zq3, zq4, Nat.reduceAdd, Nat.reduceEqDiff, reduceCtorEq, if_true, if_false, reduceIte, Nat.succ_ne_self, true_and, zq5, zq7, zq8])
        rw [hput]
        exact ⟨_, rfl, { e0 with tx := ⟨next, acked, e0.tx.flight, sent, qu, asks, tries, held, count, dead⟩ }, e1, n0, n1, { m with m0 := { m.m0 with qA := A3, qC := b3, qV := ds3 } }, rfl, rfl, rfl, rfl, rfl, ⟨{ hR1.e0 with qu := hd3, qc := hb3 }, hR1.e1, hR.n0, hR.n1⟩⟩
      · ((try simp only [seval, go_sem]);repeat((with_reducible first|refine vJ ?_|refine vK ?_);try simp only [seval, go_sem]))
        (try with_reducible refine appM.toT ?_); (refine appM_empty 99 atyB rfl (by first | exact .inl ⟨_, rfl⟩ | exact .inr ⟨_, _, rfl⟩) rfl (hrv.mono hz1) (by first | omega | (simp <;> omega)) (bc_one _) (by omega) (fun A5 c5 z5 hz5 hc5 hr5 => ?_)); dsimp only at hz5; ((try simp only [seval, go_sem]);repeat((with_reducible first|refine vJ ?_|refine vK ?_);try simp only [seval, go_sem]))
        (try with_reducible refine appM.toT ?_); (refine appM_newF 22 atyS rfl rfl rfl rfl rfl rfl rfl (by simp [Value.oneCell']) (by omega) (fun A6 c6 hc6 hat6 => ?_)); ((try simp only [seval, go_sem]);repeat((with_reducible first|refine vJ ?_|refine vK ?_);try simp only [seval, go_sem]))
        ((first | refine ⟨⟨by omega, hE⟩, ?_⟩ | refine ⟨hE, ?_⟩); (try simp only [seval, go_sem]))
        (refine stoV_row 10 rfl rfl rfl rfl rfl rfl rfl (by rw [endsC_len]; simp) ?_; ((try simp only [seval, go_sem]);repeat((with_reducible first|refine vJ ?_|refine vK ?_);try simp only [seval, go_sem])))
        (refine FinV.pk 999 [10, 11, 20, 21, 22, 23, 30, 31, 32, 33, 40, 41, 50, 51] ?_); dsimp only
        (((try simp only [seval, go_sem]);repeat((with_reducible first|refine vJ ?_|refine vK ?_);try simp only [seval, go_sem])); refine FinV.own 999 rfl ?_; simp only [finE, finS, gt, look, SV.toV, SC.toV, allV, tupV, zq1, zq2, zq3, zq4, Nat.reduceAdd, Nat.reduceEqDiff, reduceCtorEq, if_true, if_false, reduceIte, Nat.succ_ne_self, true_and, zq5, zq7, zq8])
        rw [hput, ends_put0 _ _ _ _ (e0.put ++ [sdu]) _ _ _ (by simp)]
        have hR5 : WldR z5 e0 e1 n0 n1 m := ⟨hR1.e0.mono hz5, hR1.e1.mono hz5, hR.n0, hR.n1⟩
        refine ⟨_, rfl, { e0 with tx := ⟨next, acked, e0.tx.flight, sent, qu, asks, tries, held, count, dead⟩, put := e0.put ++ [sdu] }, e1, n0, n1, { m with m0 := { m.m0 with qA := A3, qC := b3, qV := ds3, pA := A6, pC := c6, pV := m.m0.pV ++ [.slice A5 sdu.length c5] } }, rfl, rfl, rfl, rfl, ?_, ?_⟩
        · simp only [wldA, if_true, List.length_append, List.length_singleton]
          rfl
        · exact ⟨{ hR5.e0 with qu := hd3.mono hz5, qc := hb3, pu := hR5.e0.pu.append (Els.single (d := sduRep) ⟨_, rfl, By.mk hc5 hBv hr5⟩), pc := by simp; exact hc6 }, hR5.e1, hR.n0, hR.n1⟩
    · exfalso
      simp [hm] at hg
theorem l9put_n1 (c : Cfg) (link : Int) (e0 e1 : End) (n0 n1 : List Msg) (m : WM) (sdu : List Int) (v : Value) (z : Zc) (hR : WldR z e0 e1 n0 n1 m) (hI : EndI c e1) (hv : By z sdu v) (hs : sdu.length ≤ 100000) (hm : c.mode = 1) (h60 : e1.put.length < 60) :
    Spec Tryz.prog 86 [wldV c link m, .int .i64 1, v] z (wldA e0 e1 n0 n1 m) fun u z' A' => ∃ e', e' = putM c e1 sdu ∧ WldH c ⟨c, [e0, e1].set 1 e', [n0, n1], link⟩ u z' A' := by
  obtain ⟨Av, kv, rfl, hkv, hBv, hrv⟩ := hv.form
  have hq24 := hI.tx.queue
  have hmps := hI.tx.cfg.mps
  (refine spec_enterL [10, 11, 20, 21, 22, 23, 30, 31, 32, 33, 40, 41, 50, 51] Tryz.func86 ic86_ok fr86_ok Tryz.ntmps86 rfl ?_; simp only [seval, go_sem, ic86, fr86, zipL])
  refine vsI.atR 10 rfl fun hE => ?_
  have hE := hE (by omega)
  ((try simp only [seval, go_sem]);repeat((with_reducible first|refine vJ ?_|refine vK ?_);try simp only [seval, go_sem]))
  ((first | refine ⟨⟨by omega, hE⟩, ?_⟩ | refine ⟨hE, ?_⟩); (try simp only [seval, go_sem]))
  (refine ldF.agg (sz := 28) _ rfl (by exact .inr ⟨10, _, _, _, _, _, rfl, fun i u hu => ends_get1 hu⟩) ?_; simp only [seval, go_sem, endC]; ((try simp only [seval, go_sem]);repeat((with_reducible first|refine vJ ?_|refine vK ?_);try simp only [seval, go_sem])))
  (with_reducible refine condI.split (fun hg => ?_) (fun hg => ?_) <;> (try simp only [hg]) <;> (try simp only [seval, go_sem]))
  · exfalso
    simp at hg
    omega
  · ((try simp only [seval, go_sem]);repeat((with_reducible first|refine vJ ?_|refine vK ?_);try simp only [seval, go_sem]))
    (with_reducible refine condI.split (fun hg => ?_) (fun hg => ?_) <;> (try simp only [hg]) <;> (try simp only [seval, go_sem]))
    · have hc := l6put c e1.tx sdu m.m1.fA m.m1.qA m.m1.fC m.m1.qC m.m1.qV _ z hv hs (by omega) (by omega) hR.e1.qu hR.e1.qc
      have hfl := txPut_fl c e1.tx sdu
      have hput : putM c e1 sdu = { e1 with tx := (txPut c e1.tx sdu).1, put := if (txPut c e1.tx sdu).2 then e1.put ++ [sdu] else e1.put } := by unfold putM; rw [if_pos hm]
      generalize txPut c e1.tx sdu = tp at hc hfl hput
      obtain ⟨⟨next, acked, fl, sent, qu, asks, tries, held, count, dead⟩, ok⟩ := tp
      dsimp only at hfl hc hput
      subst hfl
      (try with_reducible refine callM.toT ?_); refine callW 31 (hc) rfl rfl rfl rfl ?_; rintro u z1 A' hz1 ⟨A3, b3, ds3, rfl, rfl, hb3, hd3⟩; ((try simp only [seval, go_sem]);repeat((with_reducible first|refine vJ ?_|refine vK ?_);try simp only [seval, go_sem]))
      have hR1 : WldR z1 e0 e1 n0 n1 m := ⟨hR.e0.mono hz1, hR.e1.mono hz1, hR.n0, hR.n1⟩
      ((first | refine ⟨⟨by omega, hE⟩, ?_⟩ | refine ⟨hE, ?_⟩); (try simp only [seval, go_sem]))
      (refine stoV_row 10 rfl rfl rfl rfl rfl rfl rfl (by rw [endsC_len]; simp) ?_; simp only [seval, go_sem, ends_tx1]; ((try simp only [seval, go_sem]);repeat((with_reducible first|refine vJ ?_|refine vK ?_);try simp only [seval, go_sem])))
      cases ok
      · ((try simp only [seval, go_sem]);repeat((with_reducible first|refine vJ ?_|refine vK ?_);try simp only [seval, go_sem]))
        (refine FinV.pk 999 [10, 11, 20, 21, 22, 23, 30, 31, 32, 33, 40, 41, 50, 51] ?_); dsimp only
        (((try simp only [seval, go_sem]);repeat((with_reducible first|refine vJ ?_|refine vK ?_);try simp only [seval, go_sem])); refine FinV.own 999 rfl ?_; simp only [finE, finS, gt, look, SV.toV, SC.toV, allV, tupV, zq1, zq2, zq3, zq4, Nat.reduceAdd, Nat.reduceEqDiff, reduceCtorEq, if_true, if_false, reduceIte, Nat.succ_ne_self, true_and, zq5, zq7, zq8])
        rw [hput]
        exact ⟨_, rfl, e0, { e1 with tx := ⟨next, acked, e1.tx.flight, sent, qu, asks, tries, held, count, dead⟩ }, n0, n1, { m with m1 := { m.m1 with qA := A3, qC := b3, qV := ds3 } }, rfl, rfl, rfl, rfl, rfl, ⟨hR1.e0, { hR1.e1 with qu := hd3, qc := hb3 }, hR.n0, hR.n1⟩⟩
      · ((try simp only [seval, go_sem]);repeat((with_reducible first|refine vJ ?_|refine vK ?_);try simp only [seval, go_sem]))
        (try with_reducible refine appM.toT ?_); (refine appM_empty 99 atyB rfl (by first | exact .inl ⟨_, rfl⟩ | exact .inr ⟨_, _, rfl⟩) rfl (hrv.mono hz1) (by first | omega | (simp <;> omega)) (bc_one _) (by omega) (fun A5 c5 z5 hz5 hc5 hr5 => ?_)); dsimp only at hz5; ((try simp only [seval, go_sem]);repeat((with_reducible first|refine vJ ?_|refine vK ?_);try simp only [seval, go_sem]))
        (try with_reducible refine appM.toT ?_); (refine appM_newF 32 atyS rfl rfl rfl rfl rfl rfl rfl (by simp [Value.oneCell']) (by omega) (fun A6 c6 hc6 hat6 => ?_)); ((try simp only [seval, go_sem]);repeat((with_reducible first|refine vJ ?_|refine vK ?_);try simp only [seval, go_sem]))
        ((first | refine ⟨⟨by omega, hE⟩, ?_⟩ | refine ⟨hE, ?_⟩); (try simp only [seval, go_sem]))
        (refine stoV_row 10 rfl rfl rfl rfl rfl rfl rfl (by rw [endsC_len]; simp) ?_; ((try simp only [seval, go_sem]);repeat((with_reducible first|refine vJ ?_|refine vK ?_);try simp only [seval, go_sem])))
        (refine FinV.pk 999 [10, 11, 20, 21, 22, 23, 30, 31, 32, 33, 40, 41, 50, 51] ?_); dsimp only
        (((try simp only [seval, go_sem]);repeat((with_reducible first|refine vJ ?_|refine vK ?_);try simp only [seval, go_sem])); refine FinV.own 999 rfl ?_; simp only [finE, finS, gt, look, SV.toV, SC.toV, allV, tupV, zq1, zq2, zq3, zq4, Nat.reduceAdd, Nat.reduceEqDiff, reduceCtorEq, if_true, if_false, reduceIte, Nat.succ_ne_self, true_and, zq5, zq7, zq8])
        rw [hput, ends_put1 _ _ _ _ (e1.put ++ [sdu]) _ _ _ (by simp)]
        have hR5 : WldR z5 e0 e1 n0 n1 m := ⟨hR1.e0.mono hz5, hR1.e1.mono hz5, hR.n0, hR.n1⟩
        refine ⟨_, rfl, e0, { e1 with tx := ⟨next, acked, e1.tx.flight, sent, qu, asks, tries, held, count, dead⟩, put := e1.put ++ [sdu] }, n0, n1, { m with m1 := { m.m1 with qA := A3, qC := b3, qV := ds3, pA := A6, pC := c6, pV := m.m1.pV ++ [.slice A5 sdu.length c5] } }, rfl, rfl, rfl, rfl, ?_, ?_⟩
        · simp only [wldA, if_true, List.length_append, List.length_singleton]
          rfl
        · exact ⟨hR5.e0, { hR5.e1 with qu := hd3.mono hz5, qc := hb3, pu := hR5.e1.pu.append (Els.single (d := sduRep) ⟨_, rfl, By.mk hc5 hBv hr5⟩), pc := by simp; exact hc6 }, hR.n0, hR.n1⟩
    · exfalso
      simp [hm] at hg
theorem txSend_frm {g : Bool} {c : Cfg} {t : Tx} {ack : Int} {f : Frm} (h : TxI c t) (hl : Low t) (hk : 0 ≤ ack ∧ ack ≤ 7) (hf : (txSend g c t ack).2 = some f) : frmOk f = true ∧ f.data.length ≤ 8 := by
  obtain ⟨h1, h2, h3⟩ := txSend_some hf
  obtain ⟨k1, k2, k3, k4⟩ := txStops_no h1
  obtain ⟨m1, m2, m3, m4⟩ := txMove_ok h hl k4
  have hse := h.sent
  have hlt : t.sent.toNat < (txMove t).flight.length := by omega
  have hg : (txMove t).flight.getD t.sent.toNat part0 ∈ (txMove t).flight := by
    rw [List.getD_eq_getElem?_getD, List.getElem?_eq_getElem hlt]; exact List.getElem_mem hlt
  have hp := m1.fl _ hg
  have hm := h.cfg.mps
  rw [h3]
  exact ⟨dataFrm_ok hp.1 (by omega) hk, by simp only [dataFrm]; omega⟩
theorem l9send_n0 (c : Cfg) (link : Int) (e0 e1 : End) (n0 n1 : List Msg) (m : WM) (z : Zc) (hR : WldR z e0 e1 n0 n1 m) (hI : EndI c e0) (hm : c.mode = 1) (h30 : n1.length ≤ 30) :
    Spec Tryz.prog 87 [wldV c link m, .int .i64 0] z (wldA e0 e1 n0 n1 m) (WldH c (if n1.length < 30 then sayO ⟨c, [e0, e1].set 0 { e0 with tx := (txSend true c e0.tx e0.rx.expect).1 }, [n0, n1], link⟩ 0 (txSend true c e0.tx e0.rx.expect).2 else ⟨c, [e0, e1], [n0, n1], link⟩)) := by
  have hx7 := hI.rx.expect
  (refine spec_enterL [10, 11, 20, 21, 22, 23, 30, 31, 32, 33, 40, 41, 50, 51] Tryz.func87 ic87_ok fr87_ok Tryz.ntmps87 rfl ?_; simp only [seval, go_sem, ic87, fr87, zipL])
  refine vsI.atR 10 rfl fun hE => ?_
  have hE := hE (by omega)
  refine vsI.atR 11 rfl fun hN => ?_
  have hN := hN (by omega)
  ((try simp only [seval, go_sem]);repeat((with_reducible first|refine vJ ?_|refine vK ?_);try simp only [seval, go_sem]))
  ((first | refine ⟨⟨by omega, hE⟩, ?_⟩ | refine ⟨hE, ?_⟩); (try simp only [seval, go_sem]))
  (refine ldF.agg (sz := 28) _ rfl (by exact .inr ⟨10, _, _, _, _, _, rfl, fun i u hu => ends_get0 hu⟩) ?_; simp only [seval, go_sem, endC]; ((try simp only [seval, go_sem]);repeat((with_reducible first|refine vJ ?_|refine vK ?_);try simp only [seval, go_sem])))
  simp only [wr10]
  simp only [seval, go_sem]
  ((first | refine ⟨⟨by omega, hN⟩, ?_⟩ | refine ⟨hN, ?_⟩); (try simp only [seval, go_sem]))
  (refine ldF.one _ (RdS.cell 11 rfl rfl) ?_; ((try simp only [seval, go_sem]);repeat((with_reducible first|refine vJ ?_|refine vK ?_);try simp only [seval, go_sem])))
  (with_reducible refine condI.split (fun hg => ?_) (fun hg => ?_) <;> (try simp only [hg]) <;> (try simp only [seval, go_sem]))
  · rw [if_neg (by simp at hg; omega)]
    ((try simp only [seval, go_sem]);repeat((with_reducible first|refine vJ ?_|refine vK ?_);try simp only [seval, go_sem]))
    (refine FinV.pk 999 [10, 11, 20, 21, 22, 23, 30, 31, 32, 33, 40, 41, 50, 51] ?_); dsimp only
    (((try simp only [seval, go_sem]);repeat((with_reducible first|refine vJ ?_|refine vK ?_);try simp only [seval, go_sem])); refine FinV.own 999 rfl ?_; simp only [finE, finS, gt, look, SV.toV, SC.toV, allV, tupV, zq1, zq2, zq3, zq4, Nat.reduceAdd, Nat.reduceEqDiff, reduceCtorEq, if_true, if_false, reduceIte, Nat.succ_ne_self, true_and, zq5, zq7, zq8])
    exact ⟨e0, e1, n0, n1, m, rfl, rfl, rfl, rfl, rfl, hR⟩
  · rw [if_pos (by simp at hg; omega)]
    ((try simp only [seval, go_sem]);repeat((with_reducible first|refine vJ ?_|refine vK ?_);try simp only [seval, go_sem]))
    (with_reducible refine condI.split (fun hg => ?_) (fun hg => ?_) <;> (try simp only [hg]) <;> (try simp only [seval, go_sem]))
    · have hfr := fun f => @txSend_frm true c e0.tx e0.rx.expect f hI.tx hI.low hx7
      have hc := l6send c e0.tx m.m0.fA m.m0.qA m.m0.fC m.m0.qC m.m0.fV m.m0.qV e0.rx.expect z hI.tx hR.e0.fl hR.e0.qu hR.e0.fc hR.e0.qc hx7
      generalize txSend true c e0.tx e0.rx.expect = tp at hc hfr ⊢
      obtain ⟨⟨next, acked, fl, sent, qu, asks, tries, held, count, dead⟩, o⟩ := tp
      dsimp only at hc hfr ⊢
      ((try simp only [seval, go_sem]);repeat((with_reducible first|refine vJ ?_|refine vK ?_);try simp only [seval, go_sem]))
      (try with_reducible refine callM.toT ?_); (refine callM.pk 98 [20, 21] ?_); dsimp only
      (try with_reducible refine callM.toT ?_); refine callW 98 (hc) rfl rfl rfl rfl ?_; rintro u z1 A' hz1 ⟨A3, B3, a3, b3, cs3, ds3, _, rfl, rfl, ⟨Ax, kx, csx, rfl, hkx, hex, hrx⟩, ha3, hb3, he3, hd3⟩; ((try simp only [seval, go_sem]);repeat((with_reducible first|refine vJ ?_|refine vK ?_);try simp only [seval, go_sem]))
      have hR1 : WldR z1 e0 e1 n0 n1 m := ⟨hR.e0.mono hz1, hR.e1.mono hz1, hR.n0, hR.n1⟩
      ((first | refine ⟨⟨by omega, hE⟩, ?_⟩ | refine ⟨hE, ?_⟩); (try simp only [seval, go_sem]))
      (refine stoV_row 10 rfl rfl rfl rfl rfl rfl rfl (by rw [endsC_len]; simp) ?_; simp only [seval, go_sem, ends_tx0]; ((try simp only [seval, go_sem]);repeat((with_reducible first|refine vJ ?_|refine vK ?_);try simp only [seval, go_sem])))
      have hR2 : WldR z1 { e0 with tx := ⟨next, acked, fl, sent, qu, asks, tries, held, count, dead⟩ } e1 n0 n1 { m with m0 := { m.m0 with fA := A3, fC := a3, fV := cs3, qA := B3, qC := b3, qV := ds3 } } := ⟨{ hR1.e0 with fl := he3, fc := ha3, qu := hd3, qc := hb3 }, hR1.e1, hR.n0, hR.n1⟩
      cases o with
      | none =>
        simp only [Option.isSome_none, Option.getD_none]
        simp only [seval, go_sem]
        ((try simp only [seval, go_sem]);repeat((with_reducible first|refine vJ ?_|refine vK ?_);try simp only [seval, go_sem]))
        (refine FinV.tf (Tf.open' 98 [20, 21] rfl rfl rfl) ?_); simp only [seval, go_sem, zipL]
        (refine FinV.pk 999 [10, 11, 20, 21, 22, 23, 30, 31, 32, 33, 40, 41, 50, 51] ?_); dsimp only
        (((try simp only [seval, go_sem]);repeat((with_reducible first|refine vJ ?_|refine vK ?_);try simp only [seval, go_sem])); refine FinV.own 999 rfl ?_; simp only [finE, finS, gt, look, SV.toV, SC.toV, allV, tupV, zq1, zq2, zq3, zq4, Nat.reduceAdd, Nat.reduceEqDiff, reduceCtorEq, if_true, if_false, reduceIte, Nat.succ_ne_self, true_and, zq5, zq7, zq8])
        exact ⟨_, _, n0, n1, { m with m0 := { m.m0 with fA := A3, fC := a3, fV := cs3, qA := B3, qC := b3, qV := ds3 } }, rfl, rfl, rfl, rfl, rfl, hR2⟩
      | some f =>
        obtain ⟨hf, hfl⟩ := hfr f rfl
        simp only [Option.isSome_some, Option.getD_some] at hex hrx hkx ⊢
        simp only [seval, go_sem]
        ((try simp only [seval, go_sem]);repeat((with_reducible first|refine vJ ?_|refine vK ?_);try simp only [seval, go_sem]))
        simp only [wr10]
        ((try with_reducible refine callM.toT ?_); refine callM.tf (Tf.open' 98 [20, 21] rfl rfl rfl) ?_); simp only [seval, go_sem, zipL]
        (try with_reducible refine callM.toT ?_); (refine callM.pk 999 [10, 11, 20, 21, 22, 23, 30, 31, 32, 33, 40, 41, 50, 51] ?_); dsimp only
        (try with_reducible refine callM.toT ?_); refine callW 999 (l9way1 c link { e0 with tx := ⟨next, acked, fl, sent, qu, asks, tries, held, count, dead⟩ } e1 n0 n1 { m with m0 := { m.m0 with fA := A3, fC := a3, fV := cs3, qA := B3, qC := b3, qV := ds3 } } f (.slice Ax f.data.length kx) z1 hR2 (by omega) hf ⟨Ax, kx, csx, rfl, hkx, hex, hrx⟩ (by omega)) rfl rfl rfl rfl ?_; rintro v z2 A' hz2 ⟨f0, f1, g0, g1, m', hw1, hw2, hw3, rfl, rfl, hR3⟩; ((try simp only [seval, go_sem]);repeat((with_reducible first|refine vJ ?_|refine vK ?_);try simp only [seval, go_sem]))
        (((try simp only [seval, go_sem]);repeat((with_reducible first|refine vJ ?_|refine vK ?_);try simp only [seval, go_sem])); refine FinV.own 999 rfl ?_; simp only [finE, finS, gt, look, SV.toV, SC.toV, allV, tupV, zq1, zq2, zq3, zq4, Nat.reduceAdd, Nat.reduceEqDiff, reduceCtorEq, if_true, if_false, reduceIte, Nat.succ_ne_self, true_and, zq5, zq7, zq8])
        exact ⟨f0, f1, g0, g1, m', hw1, hw2, hw3, rfl, rfl, hR3⟩
    · exfalso
      simp [hm] at hg
theorem l9send_n1 (c : Cfg) (link : Int) (e0 e1 : End) (n0 n1 : List Msg) (m : WM) (z : Zc) (hR : WldR z e0 e1 n0 n1 m) (hI : EndI c e1) (hm : c.mode = 1) (h30 : n0.length ≤ 30) :
    Spec Tryz.prog 87 [wldV c link m, .int .i64 1] z (wldA e0 e1 n0 n1 m) (WldH c (if n0.length < 30 then sayO ⟨c, [e0, e1].set 1 { e1 with tx := (txSend true c e1.tx e1.rx.expect).1 }, [n0, n1], link⟩ 1 (txSend true c e1.tx e1.rx.expect).2 else ⟨c, [e0, e1], [n0, n1], link⟩)) := by
  have hx7 := hI.rx.expect
  (refine spec_enterL [10, 11, 20, 21, 22, 23, 30, 31, 32, 33, 40, 41, 50, 51] Tryz.func87 ic87_ok fr87_ok Tryz.ntmps87 rfl ?_; simp only [seval, go_sem, ic87, fr87, zipL])
  refine vsI.atR 10 rfl fun hE => ?_
  have hE := hE (by omega)
  refine vsI.atR 11 rfl fun hN => ?_
  have hN := hN (by omega)
  ((try simp only [seval, go_sem]);repeat((with_reducible first|refine vJ ?_|refine vK ?_);try simp only [seval, go_sem]))
  ((first | refine ⟨⟨by omega, hE⟩, ?_⟩ | refine ⟨hE, ?_⟩); (try simp only [seval, go_sem]))
  (refine ldF.agg (sz := 28) _ rfl (by exact .inr ⟨10, _, _, _, _, _, rfl, fun i u hu => ends_get1 hu⟩) ?_; simp only [seval, go_sem, endC]; ((try simp only [seval, go_sem]);repeat((with_reducible first|refine vJ ?_|refine vK ?_);try simp only [seval, go_sem])))
  simp only [wr11]
  simp only [seval, go_sem]
  ((first | refine ⟨⟨by omega, hN⟩, ?_⟩ | refine ⟨hN, ?_⟩); (try simp only [seval, go_sem]))
  (refine ldF.one _ (RdS.cell 11 rfl rfl) ?_; ((try simp only [seval, go_sem]);repeat((with_reducible first|refine vJ ?_|refine vK ?_);try simp only [seval, go_sem])))
  (with_reducible refine condI.split (fun hg => ?_) (fun hg => ?_) <;> (try simp only [hg]) <;> (try simp only [seval, go_sem]))
  · rw [if_neg (by simp at hg; omega)]
    ((try simp only [seval, go_sem]);repeat((with_reducible first|refine vJ ?_|refine vK ?_);try simp only [seval, go_sem]))
    (refine FinV.pk 999 [10, 11, 20, 21, 22, 23, 30, 31, 32, 33, 40, 41, 50, 51] ?_); dsimp only
    (((try simp only [seval, go_sem]);repeat((with_reducible first|refine vJ ?_|refine vK ?_);try simp only [seval, go_sem])); refine FinV.own 999 rfl ?_; simp only [finE, finS, gt, look, SV.toV, SC.toV, allV, tupV, zq1, zq2, zq3, zq4, Nat.reduceAdd, Nat.reduceEqDiff, reduceCtorEq, if_true, if_false, reduceIte, Nat.succ_ne_self, true_and, zq5, zq7, zq8])
    exact ⟨e0, e1, n0, n1, m, rfl, rfl, rfl, rfl, rfl, hR⟩
  · rw [if_pos (by simp at hg; omega)]
    ((try simp only [seval, go_sem]);repeat((with_reducible first|refine vJ ?_|refine vK ?_);try simp only [seval, go_sem]))
    (with_reducible refine condI.split (fun hg => ?_) (fun hg => ?_) <;> (try simp only [hg]) <;> (try simp only [seval, go_sem]))
    · have hfr := fun f => @txSend_frm true c e1.tx e1.rx.expect f hI.tx hI.low hx7
      have hc := l6send c e1.tx m.m1.fA m.m1.qA m.m1.fC m.m1.qC m.m1.fV m.m1.qV e1.rx.expect z hI.tx hR.e1.fl hR.e1.qu hR.e1.fc hR.e1.qc hx7
      generalize txSend true c e1.tx e1.rx.expect = tp at hc hfr ⊢
      obtain ⟨⟨next, acked, fl, sent, qu, asks, tries, held, count, dead⟩, o⟩ := tp
      dsimp only at hc hfr ⊢
      ((try simp only [seval, go_sem]);repeat((with_reducible first|refine vJ ?_|refine vK ?_);try simp only [seval, go_sem]))
      (try with_reducible refine callM.toT ?_); (refine callM.pk 98 [30, 31] ?_); dsimp only
      (try with_reducible refine callM.toT ?_); refine callW 98 (hc) rfl rfl rfl rfl ?_; rintro u z1 A' hz1 ⟨A3, B3, a3, b3, cs3, ds3, _, rfl, rfl, ⟨Ax, kx, csx, rfl, hkx, hex, hrx⟩, ha3, hb3, he3, hd3⟩; ((try simp only [seval, go_sem]);repeat((with_reducible first|refine vJ ?_|refine vK ?_);try simp only [seval, go_sem]))
      have hR1 : WldR z1 e0 e1 n0 n1 m := ⟨hR.e0.mono hz1, hR.e1.mono hz1, hR.n0, hR.n1⟩
      ((first | refine ⟨⟨by omega, hE⟩, ?_⟩ | refine ⟨hE, ?_⟩); (try simp only [seval, go_sem]))
      (refine stoV_row 10 rfl rfl rfl rfl rfl rfl rfl (by rw [endsC_len]; simp) ?_; simp only [seval, go_sem, ends_tx1]; ((try simp only [seval, go_sem]);repeat((with_reducible first|refine vJ ?_|refine vK ?_);try simp only [seval, go_sem])))
      have hR2 : WldR z1 e0 { e1 with tx := ⟨next, acked, fl, sent, qu, asks, tries, held, count, dead⟩ } n0 n1 { m with m1 := { m.m1 with fA := A3, fC := a3, fV := cs3, qA := B3, qC := b3, qV := ds3 } } := ⟨hR1.e0, { hR1.e1 with fl := he3, fc := ha3, qu := hd3, qc := hb3 }, hR.n0, hR.n1⟩
      cases o with
      | none =>
        simp only [Option.isSome_none, Option.getD_none]
        simp only [seval, go_sem]
        ((try simp only [seval, go_sem]);repeat((with_reducible first|refine vJ ?_|refine vK ?_);try simp only [seval, go_sem]))
        (refine FinV.tf (Tf.open' 98 [30, 31] rfl rfl rfl) ?_); simp only [seval, go_sem, zipL]
        (refine FinV.pk 999 [10, 11, 20, 21, 22, 23, 30, 31, 32, 33, 40, 41, 50, 51] ?_); dsimp only
        (((try simp only [seval, go_sem]);repeat((with_reducible first|refine vJ ?_|refine vK ?_);try simp only [seval, go_sem])); refine FinV.own 999 rfl ?_; simp only [finE, finS, gt, look, SV.toV, SC.toV, allV, tupV, zq1, zq2, zq3, zq4, Nat.reduceAdd, Nat.reduceEqDiff, reduceCtorEq, if_true, if_false, reduceIte, Nat.succ_ne_self, true_and, zq5, zq7, zq8])
        exact ⟨_, _, n0, n1, { m with m1 := { m.m1 with fA := A3, fC := a3, fV := cs3, qA := B3, qC := b3, qV := ds3 } }, rfl, rfl, rfl, rfl, rfl, hR2⟩
      | some f =>
        obtain ⟨hf, hfl⟩ := hfr f rfl
        simp only [Option.isSome_some, Option.getD_some] at hex hrx hkx ⊢
        simp only [seval, go_sem]
        ((try simp only [seval, go_sem]);repeat((with_reducible first|refine vJ ?_|refine vK ?_);try simp only [seval, go_sem]))
        simp only [wr11]
        ((try with_reducible refine callM.toT ?_); refine callM.tf (Tf.open' 98 [30, 31] rfl rfl rfl) ?_); simp only [seval, go_sem, zipL]
        (try with_reducible refine callM.toT ?_); (refine callM.pk 999 [10, 11, 20, 21, 22, 23, 30, 31, 32, 33, 40, 41, 50, 51] ?_); dsimp only
        (try with_reducible refine callM.toT ?_); refine callW 999 (l9way0 c link e0 { e1 with tx := ⟨next, acked, fl, sent, qu, asks, tries, held, count, dead⟩ } n0 n1 { m with m1 := { m.m1 with fA := A3, fC := a3, fV := cs3, qA := B3, qC := b3, qV := ds3 } } f (.slice Ax f.data.length kx) z1 hR2 (by omega) hf ⟨Ax, kx, csx, rfl, hkx, hex, hrx⟩ (by omega)) rfl rfl rfl rfl ?_; rintro v z2 A' hz2 ⟨f0, f1, g0, g1, m', hw1, hw2, hw3, rfl, rfl, hR3⟩; ((try simp only [seval, go_sem]);repeat((with_reducible first|refine vJ ?_|refine vK ?_);try simp only [seval, go_sem]))
        (((try simp only [seval, go_sem]);repeat((with_reducible first|refine vJ ?_|refine vK ?_);try simp only [seval, go_sem])); refine FinV.own 999 rfl ?_; simp only [finE, finS, gt, look, SV.toV, SC.toV, allV, tupV, zq1, zq2, zq3, zq4, Nat.reduceAdd, Nat.reduceEqDiff, reduceCtorEq, if_true, if_false, reduceIte, Nat.succ_ne_self, true_and, zq5, zq7, zq8])
        exact ⟨f0, f1, g0, g1, m', hw1, hw2, hw3, rfl, rfl, hR3⟩
    · exfalso
      simp [hm] at hg
theorem txTick_frm {c : Cfg} {t : Tx} {ack : Int} {b : Bool} {f : Frm} (hk : 0 ≤ ack ∧ ack ≤ 7) (hf : (txTick c t ack b).2 = some f) : frmOk f = true ∧ f.data.length ≤ 8 := by
  rw [txTick_some hf]
  exact ⟨sayFrm_ok hk rfl (goWait_02 b), by simp [sayFrm]⟩
theorem l9tick_n0 (c : Cfg) (link : Int) (e0 e1 : End) (n0 n1 : List Msg) (m : WM) (z : Zc) (hR : WldR z e0 e1 n0 n1 m) (hI : EndI c e0) (hm : c.mode = 1) (h30 : n1.length ≤ 30) :
    Spec Tryz.prog 88 [wldV c link m, .int .i64 0] z (wldA e0 e1 n0 n1 m) (WldH c (sayO ⟨c, [e0, e1].set 0 { e0 with tx := (txTick c e0.tx e0.rx.expect e0.rx.busy).1 }, [n0, n1], link⟩ 0 (txTick c e0.tx e0.rx.expect e0.rx.busy).2)) := by
  have hx7 := hI.rx.expect
  have htr := hI.tx.tries
  have hct := hI.tx.cfg.tri
  (refine spec_enterL [10, 11, 20, 21, 22, 23, 30, 31, 32, 33, 40, 41, 50, 51] Tryz.func88 ic88_ok fr88_ok Tryz.ntmps88 rfl ?_; simp only [seval, go_sem, ic88, fr88, zipL])
  refine vsI.atR 10 rfl fun hE => ?_
  have hE := hE (by omega)
  ((try simp only [seval, go_sem]);repeat((with_reducible first|refine vJ ?_|refine vK ?_);try simp only [seval, go_sem]))
  ((first | refine ⟨⟨by omega, hE⟩, ?_⟩ | refine ⟨hE, ?_⟩); (try simp only [seval, go_sem]))
  (refine ldF.agg (sz := 28) _ rfl (by exact .inr ⟨10, _, _, _, _, _, rfl, fun i u hu => ends_get0 hu⟩) ?_; simp only [seval, go_sem, endC]; ((try simp only [seval, go_sem]);repeat((with_reducible first|refine vJ ?_|refine vK ?_);try simp only [seval, go_sem])))
  (with_reducible refine condI.split (fun hg => ?_) (fun hg => ?_) <;> (try simp only [hg]) <;> (try simp only [seval, go_sem]))
  · exfalso
    simp [hm] at hg
  · ((try simp only [seval, go_sem]);repeat((with_reducible first|refine vJ ?_|refine vK ?_);try simp only [seval, go_sem]))
    have hfr := fun f => @txTick_frm c e0.tx e0.rx.expect e0.rx.busy f hx7
    have hal := @txTick_alike c e0.tx e0.rx.expect e0.rx.busy
    have hc := l6tick c e0.tx m.m0.fA m.m0.qA e0.tx.queue.length m.m0.fC m.m0.qC e0.rx.expect e0.rx.busy z (by omega)
    generalize txTick c e0.tx e0.rx.expect e0.rx.busy = tp at hc hfr hal ⊢
    obtain ⟨⟨next, acked, fl, sent, qu, asks, tries, held, count, dead⟩, o⟩ := tp
    dsimp only at hc hfr hal ⊢
    obtain ⟨-, rfl, rfl⟩ := hal
    (try with_reducible refine callM.toT ?_); refine callP (hc) rfl rfl ?_; rintro u z1 hz1 ⟨_, rfl, ⟨Ax, kx, csx, rfl, hkx, hex, hrx⟩⟩; ((try simp only [seval, go_sem]);repeat((with_reducible first|refine vJ ?_|refine vK ?_);try simp only [seval, go_sem]))
    have hR1 : WldR z1 e0 e1 n0 n1 m := ⟨hR.e0.mono hz1, hR.e1.mono hz1, hR.n0, hR.n1⟩
    ((first | refine ⟨⟨by omega, hE⟩, ?_⟩ | refine ⟨hE, ?_⟩); (try simp only [seval, go_sem]))
    (refine stoV_row 10 rfl rfl rfl rfl rfl rfl rfl (by rw [endsC_len]; simp) ?_; simp only [seval, go_sem, ends_tx0]; ((try simp only [seval, go_sem]);repeat((with_reducible first|refine vJ ?_|refine vK ?_);try simp only [seval, go_sem])))
    have hR2 : WldR z1 { e0 with tx := ⟨next, acked, e0.tx.flight, sent, e0.tx.queue, asks, tries, held, count, dead⟩ } e1 n0 n1 m := ⟨{ hR1.e0 with fl := hR1.e0.fl }, hR1.e1, hR.n0, hR.n1⟩
    cases o with
    | none =>
      simp only [Option.isSome_none, Option.getD_none]
      simp only [seval, go_sem]
      ((try simp only [seval, go_sem]);repeat((with_reducible first|refine vJ ?_|refine vK ?_);try simp only [seval, go_sem]))
      (refine FinV.pk 999 [10, 11, 20, 21, 22, 23, 30, 31, 32, 33, 40, 41, 50, 51] ?_); dsimp only
      (((try simp only [seval, go_sem]);repeat((with_reducible first|refine vJ ?_|refine vK ?_);try simp only [seval, go_sem])); refine FinV.own 999 rfl ?_; simp only [finE, finS, gt, look, SV.toV, SC.toV, allV, tupV, zq1, zq2, zq3, zq4, Nat.reduceAdd, Nat.reduceEqDiff, reduceCtorEq, if_true, if_false, reduceIte, Nat.succ_ne_self, true_and, zq5, zq7, zq8])
      exact ⟨_, _, n0, n1, m, rfl, rfl, rfl, rfl, rfl, hR2⟩
    | some f =>
      obtain ⟨hf, hfl⟩ := hfr f rfl
      simp only [Option.isSome_some, Option.getD_some] at hex hrx hkx ⊢
      simp only [seval, go_sem]
      ((try simp only [seval, go_sem]);repeat((with_reducible first|refine vJ ?_|refine vK ?_);try simp only [seval, go_sem]))
      simp only [wr10]
      (try with_reducible refine callM.toT ?_); (refine callM.pk 999 [10, 11, 20, 21, 22, 23, 30, 31, 32, 33, 40, 41, 50, 51] ?_); dsimp only
      (try with_reducible refine callM.toT ?_); refine callW 999 (l9way1 c link { e0 with tx := ⟨next, acked, e0.tx.flight, sent, e0.tx.queue, asks, tries, held, count, dead⟩ } e1 n0 n1 m f (.slice Ax f.data.length kx) z1 hR2 (by omega) hf ⟨Ax, kx, csx, rfl, hkx, hex, hrx⟩ (by omega)) rfl rfl rfl rfl ?_; rintro v z2 A' hz2 ⟨f0, f1, g0, g1, m', hw1, hw2, hw3, rfl, rfl, hR3⟩; ((try simp only [seval, go_sem]);repeat((with_reducible first|refine vJ ?_|refine vK ?_);try simp only [seval, go_sem]))
      (((try simp only [seval, go_sem]);repeat((with_reducible first|refine vJ ?_|refine vK ?_);try simp only [seval, go_sem])); refine FinV.own 999 rfl ?_; simp only [finE, finS, gt, look, SV.toV, SC.toV, allV, tupV, zq1, zq2, zq3, zq4, Nat.reduceAdd, Nat.reduceEqDiff, reduceCtorEq, if_true, if_false, reduceIte, Nat.succ_ne_self, true_and, zq5, zq7, zq8])
      exact ⟨f0, f1, g0, g1, m', hw1, hw2, hw3, rfl, rfl, hR3⟩
theorem l9tick_n1 (c : Cfg) (link : Int) (e0 e1 : End) (n0 n1 : List Msg) (m : WM) (z : Zc) (hR : WldR z e0 e1 n0 n1 m) (hI : EndI c e1) (hm : c.mode = 1) (h30 : n0.length ≤ 30) :
    Spec Tryz.prog 88 [wldV c link m, .int .i64 1] z (wldA e0 e1 n0 n1 m) (WldH c (sayO ⟨c, [e0, e1].set 1 { e1 with tx := (txTick c e1.tx e1.rx.expect e1.rx.busy).1 }, [n0, n1], link⟩ 1 (txTick c e1.tx e1.rx.expect e1.rx.busy).2)) := by
  have hx7 := hI.rx.expect
  have htr := hI.tx.tries
  have hct := hI.tx.cfg.tri
  (refine spec_enterL [10, 11, 20, 21, 22, 23, 30, 31, 32, 33, 40, 41, 50, 51] Tryz.func88 ic88_ok fr88_ok Tryz.ntmps88 rfl ?_; simp only [seval, go_sem, ic88, fr88, zipL])
  refine vsI.atR 10 rfl fun hE => ?_
  have hE := hE (by omega)
  ((try simp only [seval, go_sem]);repeat((with_reducible first|refine vJ ?_|refine vK ?_);try simp only [seval, go_sem]))
  ((first | refine ⟨⟨by omega, hE⟩, ?_⟩ | refine ⟨hE, ?_⟩); (try simp only [seval, go_sem]))
  (refine ldF.agg (sz := 28) _ rfl (by exact .inr ⟨10, _, _, _, _, _, rfl, fun i u hu => ends_get1 hu⟩) ?_; simp only [seval, go_sem, endC]; ((try simp only [seval, go_sem]);repeat((with_reducible first|refine vJ ?_|refine vK ?_);try simp only [seval, go_sem])))
  (with_reducible refine condI.split (fun hg => ?_) (fun hg => ?_) <;> (try simp only [hg]) <;> (try simp only [seval, go_sem]))
  · exfalso
    simp [hm] at hg
  · ((try simp only [seval, go_sem]);repeat((with_reducible first|refine vJ ?_|refine vK ?_);try simp only [seval, go_sem]))
    have hfr := fun f => @txTick_frm c e1.tx e1.rx.expect e1.rx.busy f hx7
    have hal := @txTick_alike c e1.tx e1.rx.expect e1.rx.busy
    have hc := l6tick c e1.tx m.m1.fA m.m1.qA e1.tx.queue.length m.m1.fC m.m1.qC e1.rx.expect e1.rx.busy z (by omega)
    generalize txTick c e1.tx e1.rx.expect e1.rx.busy = tp at hc hfr hal ⊢
    obtain ⟨⟨next, acked, fl, sent, qu, asks, tries, held, count, dead⟩, o⟩ := tp
    dsimp only at hc hfr hal ⊢
    obtain ⟨-, rfl, rfl⟩ := hal
    (try with_reducible refine callM.toT ?_); refine callP (hc) rfl rfl ?_; rintro u z1 hz1 ⟨_, rfl, ⟨Ax, kx, csx, rfl, hkx, hex, hrx⟩⟩; ((try simp only [seval, go_sem]);repeat((with_reducible first|refine vJ ?_|refine vK ?_);try simp only [seval, go_sem]))
    have hR1 : WldR z1 e0 e1 n0 n1 m := ⟨hR.e0.mono hz1, hR.e1.mono hz1, hR.n0, hR.n1⟩
    ((first | refine ⟨⟨by omega, hE⟩, ?_⟩ | refine ⟨hE, ?_⟩); (try simp only [seval, go_sem]))
    (refine stoV_row 10 rfl rfl rfl rfl rfl rfl rfl (by rw [endsC_len]; simp) ?_; simp only [seval, go_sem, ends_tx1]; ((try simp only [seval, go_sem]);repeat((with_reducible first|refine vJ ?_|refine vK ?_);try simp only [seval, go_sem])))
    have hR2 : WldR z1 e0 { e1 with tx := ⟨next, acked, e1.tx.flight, sent, e1.tx.queue, asks, tries, held, count, dead⟩ } n0 n1 m := ⟨hR1.e0, { hR1.e1 with fl := hR1.e1.fl }, hR.n0, hR.n1⟩
    cases o with
    | none =>
      simp only [Option.isSome_none, Option.getD_none]
      simp only [seval, go_sem]
      ((try simp only [seval, go_sem]);repeat((with_reducible first|refine vJ ?_|refine vK ?_);try simp only [seval, go_sem]))
      (refine FinV.pk 999 [10, 11, 20, 21, 22, 23, 30, 31, 32, 33, 40, 41, 50, 51] ?_); dsimp only
      (((try simp only [seval, go_sem]);repeat((with_reducible first|refine vJ ?_|refine vK ?_);try simp only [seval, go_sem])); refine FinV.own 999 rfl ?_; simp only [finE, finS, gt, look, SV.toV, SC.toV, allV, tupV, zq1, zq2, zq3, zq4, Nat.reduceAdd, Nat.reduceEqDiff, reduceCtorEq, if_true, if_false, reduceIte, Nat.succ_ne_self, true_and, zq5, zq7, zq8])
      exact ⟨_, _, n0, n1, m, rfl, rfl, rfl, rfl, rfl, hR2⟩
    | some f =>
      obtain ⟨hf, hfl⟩ := hfr f rfl
      simp only [Option.isSome_some, Option.getD_some] at hex hrx hkx ⊢
      simp only [seval, go_sem]
      ((try simp only [seval, go_sem]);repeat((with_reducible first|refine vJ ?_|refine vK ?_);try simp only [seval, go_sem]))
      simp only [wr11]
      (try with_reducible refine callM.toT ?_); (refine callM.pk 999 [10, 11, 20, 21, 22, 23, 30, 31, 32, 33, 40, 41, 50, 51] ?_); dsimp only
      (try with_reducible refine callM.toT ?_); refine callW 999 (l9way0 c link e0 { e1 with tx := ⟨next, acked, e1.tx.flight, sent, e1.tx.queue, asks, tries, held, count, dead⟩ } n0 n1 m f (.slice Ax f.data.length kx) z1 hR2 (by omega) hf ⟨Ax, kx, csx, rfl, hkx, hex, hrx⟩ (by omega)) rfl rfl rfl rfl ?_; rintro v z2 A' hz2 ⟨f0, f1, g0, g1, m', hw1, hw2, hw3, rfl, rfl, hR3⟩; ((try simp only [seval, go_sem]);repeat((with_reducible first|refine vJ ?_|refine vK ?_);try simp only [seval, go_sem]))
      (((try simp only [seval, go_sem]);repeat((with_reducible first|refine vJ ?_|refine vK ?_);try simp only [seval, go_sem])); refine FinV.own 999 rfl ?_; simp only [finE, finS, gt, look, SV.toV, SC.toV, allV, tupV, zq1, zq2, zq3, zq4, Nat.reduceAdd, Nat.reduceEqDiff, reduceCtorEq, if_true, if_false, reduceIte, Nat.succ_ne_self, true_and, zq5, zq7, zq8])
      exact ⟨f0, f1, g0, g1, m', hw1, hw2, hw3, rfl, rfl, hR3⟩
theorem wldH_eq {c : Cfg} {w : Wld} {u : Value} {z : Zc} {A : Asrt} (h : WldH c w u z A) : ∃ e0 e1 n0 n1 m link, w = ⟨c, [e0, e1], [n0, n1], link⟩ ∧ u = wldV c link m ∧ A = wldA e0 e1 n0 n1 m ∧ WldR z e0 e1 n0 n1 m := by
  obtain ⟨e0, e1, n0, n1, m, h1, h2, h3, h4, h5, h6⟩ := h
  obtain ⟨c', es, ns, link⟩ := w
  dsimp only at h1 h2 h3 h4
  subst h1 h2 h3
  exact ⟨e0, e1, n0, n1, m, link, rfl, h4, h5, h6⟩
theorem WldH.mk {c : Cfg} {e0 e1 : End} {n0 n1 : List Msg} {m : WM} {link : Int} {z : Zc} (h : WldR z e0 e1 n0 n1 m) : WldH c ⟨c, [e0, e1], [n0, n1], link⟩ (wldV c link m) z (wldA e0 e1 n0 n1 m) := ⟨e0, e1, n0, n1, m, rfl, rfl, rfl, rfl, rfl, h⟩
theorem say1_30 {c : Cfg} {e0 e1 f0 f1 : End} {n0 n1 g0 g1 : List Msg} {l l' : Int} {i : Nat} {f : Frm} (h : say1 ⟨c, [e0, e1], [n0, n1], l⟩ i f = ⟨c, [f0, f1], [g0, g1], l'⟩) (h0 : n0.length ≤ 30) (h1 : n1.length ≤ 30) : g0.length ≤ 30 ∧ g1.length ≤ 30 := by
  unfold say1 at h
  by_cases hl : (netAt ⟨c, [e0, e1], [n0, n1], l⟩ (1 - i)).length < 30
  · rw [if_pos hl] at h
    injection h with _ _ h _
    rcases Nat.lt_or_ge (1 - i) 1 with hi | hi
    · have e : 1 - i = 0 := by omega
      rw [e] at h hl
      have hl' : n0.length < 30 := hl
      have h' : [n0 ++ [⟨false, frmBytes f⟩], n1] = [g0, g1] := h
      injection h' with h2 h3
      injection h3 with h3 _
      subst h2; subst h3
      simp; omega
    · have e : 1 - i = 1 := by omega
      rw [e] at h hl
      have hl' : n1.length < 30 := hl
      have h' : [n0, n1 ++ [⟨false, frmBytes f⟩]] = [g0, g1] := h
      injection h' with h2 h3
      injection h3 with h3 _
      subst h2; subst h3
      simp; omega
  · rw [if_neg hl] at h
    injection h with _ _ h _
    injection h with h2 h3
    injection h3 with h3 _
    subst h2; subst h3
    exact ⟨h0, h1⟩
theorem says_take {w : Wld} {who : Nat} {l : List Frm} {i : Nat} {x : Frm} (h : l[i]? = some x) : says w who (l.take (i + 1)) = say1 (says w who (l.take i)) who x := by
  unfold says
  rw [List.take_add_one, h, List.foldl_append]
  rfl
structure WaysS where
  i : Nat
  e0 : End
  e1 : End
  n0 : List Msg
  n1 : List Msg
  link : Int
  m : WM
  z : Zc
theorem l9ways0 (c : Cfg) (link : Int) (e0 e1 : End) (n0 n1 : List Msg) (m : WM) (l : List Frm) (v : Value) (z : Zc) (hR : WldR z e0 e1 n0 n1 m) (hv : Sl fRep z l v) (hl : l.length ≤ 1000) (hf : ∀ f ∈ l, frmOk f = true ∧ f.data.length ≤ 8) (h0 : n0.length ≤ 30) (h1 : n1.length ≤ 30) :
    Spec Tryz.prog 116 [wldV c link m, .int .i64 0, v] z (wldA e0 e1 n0 n1 m) (WldH c (says ⟨c, [e0, e1], [n0, n1], link⟩ 1 l)) := by
  obtain ⟨A, kk, cs, rfl, hk, he, hr⟩ := hv
  (refine spec_enter1 Tryz.func116 ic116_ok fr116_ok Tryz.ntmps116 ?_; simp only [seval, go_sem, ic116, fr116])
  ((try simp only [seval, go_sem]);repeat((with_reducible first|refine vJ ?_|refine vK ?_);try simp only [seval, go_sem]))
  refine loop_upd (ι := WaysS) (n := 2) (fun s => z ≤ s.z ∧ s.i ≤ l.length ∧ says ⟨c, [e0, e1], [n0, n1], link⟩ 1 (l.take s.i) = ⟨c, [s.e0, s.e1], [s.n0, s.n1], s.link⟩ ∧ WldR s.z s.e0 s.e1 s.n0 s.n1 s.m ∧ s.n0.length ≤ 30 ∧ s.n1.length ≤ 30) (fun s => [(7, .c (.v (.int .i64 s.i)))])
    (fun s => [(1000, .own (wldA s.e0 s.e1 s.n0 s.n1 s.m)), (0, .cells 73 [.v (.int .i64 c.mode), .v (.int .i64 c.win), .v (.int .i64 c.mps), .v (.int .i64 c.mtu), .v (.int .i64 c.tri), .v (.slice s.m.E 2 s.m.EC), .v (.slice s.m.N 2 s.m.NC), .v (.int .i64 s.link)]), (1, .cells 73 [.v (.int .i64 0), .v (.int .i64 0), .v (.int .i64 0), .v (.int .i64 0), .v (.int .i64 0), .v (.slice none 0 0), .v (.slice none 0 0), .v (.int .i64 0)])])
    (fun s => s.z) (fun s => l.length - s.i) ⟨0, e0, e1, n0, n1, link, m, z⟩ ⟨Zc.rfl' _, by simp, by simp [says], hR, h0, h1⟩ (by (simp only [wrI, wrR, anyL, st, List.append_nil, List.nil_append, List.cons_append]); exact rfl) ?_ ?_
  · (refine Le.of ?_ ?_ rfl ?_ ⟨rfl, rfl⟩; rotate_left; (simp only [LeL, look, del, Nat.reduceEqDiff, reduceCtorEq, if_true, if_false, reduceIte, Nat.succ_ne_self, and_true, true_and, and_self]); (first | exact Nat.le_refl _ | decide | (dsimp only; omega)); (simp (disch := omega) only [LeT, updL, st, reduceCtorEq, true_or, or_true, false_or, and_true, true_and, SV.c.injEq, SC.v.injEq, Value.int.injEq, Value.slice.injEq, wrap_in, Int.natCast_add, Int.natCast_one, Int.natCast_zero, Int.cast_ofNat_Int]) <;> (try (repeat' constructor)) <;> (first | rfl | omega))
  · rintro ⟨i, e0', e1', n0', n1', link', m', z1⟩ ⟨hz1, hi, hgl, hR1, hn0, hn1⟩
    dsimp only at *
    ((try simp only [seval, go_sem]);repeat((with_reducible first|refine vJ ?_|refine vK ?_);try simp only [seval, go_sem]))
    (with_reducible refine condI.split (fun hg => ?_) (fun hg => ?_) <;> (try simp only [hg]) <;> (try simp only [seval, go_sem]))
    · have hi' : i < l.length := by simp at hg; omega
      obtain ⟨x, hx⟩ : ∃ x, l[i]? = some x := ⟨_, List.getElem?_eq_getElem hi'⟩
      obtain ⟨hf1, hf8⟩ := hf x (List.mem_of_getElem? hx)
      obtain ⟨c1, ⟨v, rfl, hb⟩, hr1⟩ := (he.mono hz1).at (hr.mono hz1) hx
      have hat : IsAt A := he.isAt hr (by decide) hi'
      ((try simp only [seval, go_sem]);repeat((with_reducible first|refine vJ ?_|refine vK ?_);try simp only [seval, go_sem]))
      (refine ⟨⟨by omega, by omega, hat⟩, ?_⟩; (try simp only [seval, go_sem]))
      (refine ldF.agg _ rfl (by first | exact .inl hr1 | exact hr1) ?_; (try simp only [seval, go_sem]))
      ((try simp only [seval, go_sem]);repeat((with_reducible first|refine vJ ?_|refine vK ?_);try simp only [seval, go_sem]))
      (try with_reducible refine callM.toT ?_); refine callW 1000 ((l9way0 c link' e0' e1' n0' n1' m' x v z1 hR1 (by omega) hf1 hb (by omega)).mono fun _ _ _ _ h => wldH_eq h) rfl rfl rfl rfl ?_; rintro v2 z2 A2 hz2 ⟨e0'', e1'', n0'', n1'', m'', link'', hw, rfl, rfl, hR2⟩; ((try simp only [seval, go_sem]);repeat((with_reducible first|refine vJ ?_|refine vK ?_);try simp only [seval, go_sem]))
      have h30 := say1_30 hw hn0 hn1
      refine ⟨⟨i + 1, e0'', e1'', n0'', n1'', link'', m'', z2⟩, ⟨Zc.trans' hz1 hz2, by dsimp only; omega, by dsimp only; rw [says_take hx, hgl, hw], hR2, h30.1, h30.2⟩, by dsimp only; omega, ?_⟩
      (refine Le.of ?_ ?_ rfl ?_ ⟨rfl, rfl⟩; rotate_left; (simp only [LeL, look, del, Nat.reduceEqDiff, reduceCtorEq, if_true, if_false, reduceIte, Nat.succ_ne_self, and_true, true_and, and_self]); (first | exact Nat.le_refl _ | decide | (dsimp only; omega)); (simp (disch := omega) only [LeT, updL, st, reduceCtorEq, true_or, or_true, false_or, and_true, true_and, SV.c.injEq, SC.v.injEq, Value.int.injEq, Value.slice.injEq, wrap_in, Int.natCast_add, Int.natCast_one, Int.natCast_zero, Int.cast_ofNat_Int]) <;> (try (repeat' constructor)) <;> (first | rfl | omega))
    · have hil : i = l.length := by simp at hg; omega
      subst hil
      rw [List.take_length] at hgl
      ((try simp only [seval, go_sem]);repeat((with_reducible first|refine vJ ?_|refine vK ?_);try simp only [seval, go_sem]))
      (((try simp only [seval, go_sem]);repeat((with_reducible first|refine vJ ?_|refine vK ?_);try simp only [seval, go_sem])); refine FinV.own 1000 rfl ?_; simp only [finE, finS, gt, look, SV.toV, SC.toV, allV, tupV, zq1, zq2, zq3, zq4, Nat.reduceAdd, Nat.reduceEqDiff, reduceCtorEq, if_true, if_false, reduceIte, Nat.succ_ne_self, true_and, zq5, zq7, zq8])
      rw [hgl]
      exact WldH.mk hR1
theorem l9ways1 (c : Cfg) (link : Int) (e0 e1 : End) (n0 n1 : List Msg) (m : WM) (l : List Frm) (v : Value) (z : Zc) (hR : WldR z e0 e1 n0 n1 m) (hv : Sl fRep z l v) (hl : l.length ≤ 1000) (hf : ∀ f ∈ l, frmOk f = true ∧ f.data.length ≤ 8) (h0 : n0.length ≤ 30) (h1 : n1.length ≤ 30) :
    Spec Tryz.prog 116 [wldV c link m, .int .i64 1, v] z (wldA e0 e1 n0 n1 m) (WldH c (says ⟨c, [e0, e1], [n0, n1], link⟩ 0 l)) := by
  obtain ⟨A, kk, cs, rfl, hk, he, hr⟩ := hv
  (refine spec_enter1 Tryz.func116 ic116_ok fr116_ok Tryz.ntmps116 ?_; simp only [seval, go_sem, ic116, fr116])
  ((try simp only [seval, go_sem]);repeat((with_reducible first|refine vJ ?_|refine vK ?_);try simp only [seval, go_sem]))
  refine loop_upd (ι := WaysS) (n := 2) (fun s => z ≤ s.z ∧ s.i ≤ l.length ∧ says ⟨c, [e0, e1], [n0, n1], link⟩ 0 (l.take s.i) = ⟨c, [s.e0, s.e1], [s.n0, s.n1], s.link⟩ ∧ WldR s.z s.e0 s.e1 s.n0 s.n1 s.m ∧ s.n0.length ≤ 30 ∧ s.n1.length ≤ 30) (fun s => [(7, .c (.v (.int .i64 s.i)))])
    (fun s => [(1000, .own (wldA s.e0 s.e1 s.n0 s.n1 s.m)), (0, .cells 73 [.v (.int .i64 c.mode), .v (.int .i64 c.win), .v (.int .i64 c.mps), .v (.int .i64 c.mtu), .v (.int .i64 c.tri), .v (.slice s.m.E 2 s.m.EC), .v (.slice s.m.N 2 s.m.NC), .v (.int .i64 s.link)]), (1, .cells 73 [.v (.int .i64 0), .v (.int .i64 0), .v (.int .i64 0), .v (.int .i64 0), .v (.int .i64 0), .v (.slice none 0 0), .v (.slice none 0 0), .v (.int .i64 0)])])
    (fun s => s.z) (fun s => l.length - s.i) ⟨0, e0, e1, n0, n1, link, m, z⟩ ⟨Zc.rfl' _, by simp, by simp [says], hR, h0, h1⟩ (by (simp only [wrI, wrR, anyL, st, List.append_nil, List.nil_append, List.cons_append]); exact rfl) ?_ ?_
  · (refine Le.of ?_ ?_ rfl ?_ ⟨rfl, rfl⟩; rotate_left; (simp only [LeL, look, del, Nat.reduceEqDiff, reduceCtorEq, if_true, if_false, reduceIte, Nat.succ_ne_self, and_true, true_and, and_self]); (first | exact Nat.le_refl _ | decide | (dsimp only; omega)); (simp (disch := omega) only [LeT, updL, st, reduceCtorEq, true_or, or_true, false_or, and_true, true_and, SV.c.injEq, SC.v.injEq, Value.int.injEq, Value.slice.injEq, wrap_in, Int.natCast_add, Int.natCast_one, Int.natCast_zero, Int.cast_ofNat_Int]) <;> (try (repeat' constructor)) <;> (first | rfl | omega))
  · rintro ⟨i, e0', e1', n0', n1', link', m', z1⟩ ⟨hz1, hi, hgl, hR1, hn0, hn1⟩
    dsimp only at *
    ((try simp only [seval, go_sem]);repeat((with_reducible first|refine vJ ?_|refine vK ?_);try simp only [seval, go_sem]))
    (with_reducible refine condI.split (fun hg => ?_) (fun hg => ?_) <;> (try simp only [hg]) <;> (try simp only [seval, go_sem]))
    · have hi' : i < l.length := by simp at hg; omega
      obtain ⟨x, hx⟩ : ∃ x, l[i]? = some x := ⟨_, List.getElem?_eq_getElem hi'⟩
      obtain ⟨hf1, hf8⟩ := hf x (List.mem_of_getElem? hx)
      obtain ⟨c1, ⟨v, rfl, hb⟩, hr1⟩ := (he.mono hz1).at (hr.mono hz1) hx
      have hat : IsAt A := he.isAt hr (by decide) hi'
      ((try simp only [seval, go_sem]);repeat((with_reducible first|refine vJ ?_|refine vK ?_);try simp only [seval, go_sem]))
      (refine ⟨⟨by omega, by omega, hat⟩, ?_⟩; (try simp only [seval, go_sem]))
      (refine ldF.agg _ rfl (by first | exact .inl hr1 | exact hr1) ?_; (try simp only [seval, go_sem]))
      ((try simp only [seval, go_sem]);repeat((with_reducible first|refine vJ ?_|refine vK ?_);try simp only [seval, go_sem]))
      (try with_reducible refine callM.toT ?_); refine callW 1000 ((l9way1 c link' e0' e1' n0' n1' m' x v z1 hR1 (by omega) hf1 hb (by omega)).mono fun _ _ _ _ h => wldH_eq h) rfl rfl rfl rfl ?_; rintro v2 z2 A2 hz2 ⟨e0'', e1'', n0'', n1'', m'', link'', hw, rfl, rfl, hR2⟩; ((try simp only [seval, go_sem]);repeat((with_reducible first|refine vJ ?_|refine vK ?_);try simp only [seval, go_sem]))
      have h30 := say1_30 hw hn0 hn1
      refine ⟨⟨i + 1, e0'', e1'', n0'', n1'', link'', m'', z2⟩, ⟨Zc.trans' hz1 hz2, by dsimp only; omega, by dsimp only; rw [says_take hx, hgl, hw], hR2, h30.1, h30.2⟩, by dsimp only; omega, ?_⟩
      (refine Le.of ?_ ?_ rfl ?_ ⟨rfl, rfl⟩; rotate_left; (simp only [LeL, look, del, Nat.reduceEqDiff, reduceCtorEq, if_true, if_false, reduceIte, Nat.succ_ne_self, and_true, true_and, and_self]); (first | exact Nat.le_refl _ | decide | (dsimp only; omega)); (simp (disch := omega) only [LeT, updL, st, reduceCtorEq, true_or, or_true, false_or, and_true, true_and, SV.c.injEq, SC.v.injEq, Value.int.injEq, Value.slice.injEq, wrap_in, Int.natCast_add, Int.natCast_one, Int.natCast_zero, Int.cast_ofNat_Int]) <;> (try (repeat' constructor)) <;> (first | rfl | omega))
    · have hil : i = l.length := by simp at hg; omega
      subst hil
      rw [List.take_length] at hgl
      ((try simp only [seval, go_sem]);repeat((with_reducible first|refine vJ ?_|refine vK ?_);try simp only [seval, go_sem]))
      (((try simp only [seval, go_sem]);repeat((with_reducible first|refine vJ ?_|refine vK ?_);try simp only [seval, go_sem])); refine FinV.own 1000 rfl ?_; simp only [finE, finS, gt, look, SV.toV, SC.toV, allV, tupV, zq1, zq2, zq3, zq4, Nat.reduceAdd, Nat.reduceEqDiff, reduceCtorEq, if_true, if_false, reduceIte, Nat.succ_ne_self, true_and, zq5, zq7, zq8])
      rw [hgl]
      exact WldH.mk hR1
end Go.Proofs.YtpjaidjnamngaaaGreat
