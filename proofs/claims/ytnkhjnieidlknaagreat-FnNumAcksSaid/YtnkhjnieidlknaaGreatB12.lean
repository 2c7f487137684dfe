/- Who sends, sends a piece, by the reference. · Codes of functions, group Wld. · Two ends over a link, as the reference holds them. · What goes on its way, by the reference. · Stores into ends. · One sends, or grants, for credits, by the reference. -/
import Derived.Test.YtnkhjnieidlknaaGreatB11
import Derived.Test.YtnkhjnieidlknaaGreatB3
import Derived.Test.YtnkhjnieidlknaaGreatProg
import Derived.Test.YtnkhjnieidlknaaGreatB4
import Derived.Test.YtnkhjnieidlknaaGreatB7
namespace Go.Proofs.YtnkhjnieidlknaaGreat
open Go.RowKit
set_option linter.unusedVariables false
set_option linter.unusedSimpArgs false
set_option maxRecDepth 100000
set_option maxHeartbeats 1000000
theorem txSend_stop {g : Bool} {c : Cfg} {t : Tx} {ack : Int} (h : txStops g c t = true) : txSend g c t ack = (t, none) := by unfold txSend; rw [if_pos h]
theorem txSend_old {g : Bool} {c : Cfg} {t : Tx} {ack : Int} (h : txStops g c t = false) (k : t.sent ≠ t.flight.length) : txSend g c t ack = ({ t with sent := t.sent + 1 }, some (dataFrm (t.flight.getD t.sent.toNat part0) ((t.acked + t.sent) % 8) ack)) := by
  unfold txSend txMove; rw [if_neg (by simp [h])]; simp only [if_neg k]
theorem txSend_new {g : Bool} {c : Cfg} {t : Tx} {ack : Int} {p : Part} {rest : List Part} (h : txStops g c t = false) (k : t.sent = t.flight.length) (hq : t.queue = p :: rest) : txSend g c t ack = ({ t with flight := t.flight ++ [p], queue := rest, next := numNext t.next, sent := t.sent + 1 }, some (dataFrm p ((t.acked + t.sent) % 8) ack)) := by
  unfold txSend txMove; rw [if_neg (by simp [h])]; simp only [if_pos k]
  have hn : t.sent.toNat = t.flight.length := by rw [k]; rfl
  simp [hq, hn]
theorem l6send (c : Cfg) (t : Tx) (A B : Option Addr) (a b : Nat) (cs ds : List Value) (ack : Int) (z : Zc) (hI : TxI c t) (he : Els pRep z t.flight cs) (hd : Els pRep z t.queue ds) (ha : t.flight.length ≤ a) (hb : t.queue.length ≤ b) (hk : 0 ≤ ack ∧ ack ≤ 7) :
    Spec Tryz.prog 117 [vCfg c, vTx t (.slice A t.flight.length a) (.slice B t.queue.length b), .int .i64 ack] z (starL [rowA tyP 3 (.slice A t.flight.length a) t.flight.length cs, rowA tyP 3 (.slice B t.queue.length b) t.queue.length ds]) fun u z' A' => ∃ A2 B2 a2 b2 cs2 ds2 x, u = .tuple #[vTx (txSend true c t ack).1 (.slice A2 (txSend true c t ack).1.flight.length a2) (.slice B2 (txSend true c t ack).1.queue.length b2), vFrm ((txSend true c t ack).2.getD frm0) x, .bool (txSend true c t ack).2.isSome] ∧
      A' = starL [rowA tyP 3 (.slice A2 (txSend true c t ack).1.flight.length a2) (txSend true c t ack).1.flight.length cs2, rowA tyP 3 (.slice B2 (txSend true c t ack).1.queue.length b2) (txSend true c t ack).1.queue.length ds2] ∧ By z' ((txSend true c t ack).2.getD frm0).data x ∧ (txSend true c t ack).1.flight.length ≤ a2 ∧ (txSend true c t ack).1.queue.length ≤ b2 ∧ Els pRep z' (txSend true c t ack).1.flight cs2 ∧ Els pRep z' (txSend true c t ack).1.queue ds2 := by
  obtain ⟨next, acked, flight, sent, queue, asks, tries, held, count, dead⟩ := t
  dsimp only at *
  have hq24 := hI.queue
  have hwin := hI.win
  have hmp := hI.cfg.mps
  have hcw := hI.cfg.win
  have hct := hI.count
  have hse := hI.sent
  have hac := hI.acked
  have hne := hI.next
  dsimp only at hq24 hwin hct hse hac hne
  have w1 : IntKind.i64.wrap (count + (flight.length : Int)) = count + flight.length := wrap_in (by omega) (by omega)
  have w2 : IntKind.i64.wrap (sent + 1) = sent + 1 := wrap_in (by omega) (by omega)
  have w3 : IntKind.i64.wrap (acked + sent) = acked + sent := wrap_in (by omega) (by omega)
  have w4 : (acked + sent).tmod 8 = (acked + sent) % 8 := Int.tmod_eq_emod_of_nonneg (by omega)
  by_cases hstop : txStops true c ⟨next, acked, flight, sent, queue, asks, tries, held, count, dead⟩ = true
  · rw [txSend_stop hstop]
    (refine spec_enterL [90, 91] Tryz.func117 ic117_ok fr117_ok Tryz.ntmps117 rfl ?_; simp only [seval, go_sem, ic117, fr117, zipL])
    (try simp only [seval, go_sem]); repeat' (first | (with_reducible refine vsI.id ?_; (try simp only [seval, go_sem])) | (with_reducible refine vcI_cond ?_; (try simp only [seval, go_sem])) | (with_reducible refine guardR.split (fun hg => ?_) (fun hg => ?_) <;> (try simp only [hg]) <;> simp only [seval, go_sem]) | (with_reducible refine condI.split (fun hg => ?_) (fun hg => ?_) <;> (try simp only [hg]) <;> (try simp only [seval, go_sem])) | (with_reducible refine callM.toT ?_))
    all_goals (try simp only [w1] at *)
    all_goals first
      | ((refine FinV.pk 999 [90, 91] ?_); dsimp only; refine fP ?_; exact ⟨A, B, a, b, cs, ds, .slice none 0 0, by simp_all [vTx, vFrm, frm0], rfl, Sl.nil _ _ _, ha, hb, he, hd⟩)
      | (exfalso; simp_all [txStops, txTop]; done)
      | (exfalso; simp_all [txStops, txTop]; omega)
  · have hst : txStops true c ⟨next, acked, flight, sent, queue, asks, tries, held, count, dead⟩ = false := by simpa using hstop
    obtain ⟨d1, d2, d3, d4⟩ := txStops_no hst
    dsimp only at d1 d2 d3 d4
    subst d1 d2 d3
    by_cases hk9 : sent = flight.length
    · obtain ⟨d5, d6, d7⟩ := d4 hk9
      obtain ⟨p, rest, rfl⟩ : ∃ p rest, queue = p :: rest := by
        cases queue with
        | nil => exact absurd rfl d6
        | cons p rest => exact ⟨p, rest, rfl⟩
      rw [txSend_new hst hk9 rfl]
      have hge : ¬ count + (flight.length : Int) ≥ 9999 := fun h => by simp [txStops, txTop, hk9, d5] at hst; omega
      (refine spec_enterL [90, 91] Tryz.func117 ic117_ok fr117_ok Tryz.ntmps117 rfl ?_; simp only [seval, go_sem, ic117, fr117, zipL])
      refine vsI.atR 91 rfl fun hat => ?_
      (refine vsI.frzR 91 rfl rfl (fun A4 c4 z4 hv4 hc4 hz4 hr4 => ?_)); (first | subst hv4 | (injection hv4 with hv_1 hv_2 hv_3; subst hv_1; subst hv_3)); refine gO ?_
      (try simp only [seval, go_sem]); repeat' (first | (with_reducible refine vsI.id ?_; (try simp only [seval, go_sem])) | (with_reducible refine vcI_cond ?_; (try simp only [seval, go_sem])) | (with_reducible refine guardR.split (fun hg => ?_) (fun hg => ?_) <;> (try simp only [hg]) <;> simp only [seval, go_sem]) | (with_reducible refine condI.split (fun hg => ?_) (fun hg => ?_) <;> (try simp only [hg]) <;> (try simp only [seval, go_sem])) | (with_reducible refine callM.toT ?_))
      · exfalso; simp at hg; omega
      · exfalso; simp at hg; omega
      · exfalso; rw [w1] at hg; simp at hg; omega
      · have he4 := he.mono hz4
        have hd4 := hd.mono hz4
        have hx : (p :: rest)[0]? = some p := rfl
        obtain ⟨c1, ⟨v1, rfl, hb1⟩, hr1⟩ := hd4.at hr4 hx
        obtain ⟨A1, k1, rfl, hk1, hB1, hrb1⟩ := hb1.form
        refine ⟨⟨by omega, hat (by simp)⟩, ?_⟩
        (refine ldF.agg _ rfl (by first | exact .inl hr1 | exact hr1) ?_; (try simp only [seval, go_sem]))
        refine gO ?_
        refine aT ?_; (refine appM_newF 90 atyP rfl rfl rfl rfl rfl rfl rfl (by simp [Value.oneCell']) (by omega) (fun A6 c6 hc6 hat6 => ?_)); refine gO ?_
        have hdr : Sl pRep z4 rest (.slice (cutA B b 1 3) (rest.length + 1 - 1) (b - 1)) := Sl.drop (k := 1) (⟨B, b, _, rfl, hb, hd4, hr4⟩ : Sl pRep z4 (p :: rest) (.slice B (p :: rest).length b))
        refine ⟨by omega, ?_⟩; refine gO ?_
        refine tT ?_; refine callO 91 (l6list_s rest _ z4 hdr (by simp at hq24; omega) (fun p' hp' => by have := hI.qu p' (List.mem_cons_of_mem _ hp'); omega)) rfl rfl rfl ?_; rintro u z5 A' hz5 ⟨A7, k7, cs7, rfl, rfl, hk7, he7⟩; refine gO ?_
        refine tT ?_; refine callP (numnext_s next z5 (by omega)) rfl rfl ?_; rintro _ _ - ⟨rfl, rfl⟩; refine gO ?_
        (with_reducible refine joinV.id ?_; simp only [seval, go_sem])
        (refine ⟨⟨by omega, by omega, hat6.resolve_right (by omega)⟩, ?_⟩; (try simp only [seval, go_sem]))
        have hn9 : sent.toNat = flight.length := by omega
        have hcl : cs.length = flight.length * 3 := he.length
        refine And.intro ?_ ?_
        all_goals (try simp only [seval, go_sem])
        all_goals (refine ldF.agg (sz := 3) [.int .i64 p.seg, .int .i64 p.len, .slice A1 p.data.length k1] rfl (by exact .inr ⟨90, _, _, _, _, _, rfl, fun i u hu => by rw [hn9, ← hcl, List.getElem?_append_right (by omega), Nat.add_sub_cancel_left]; exact hu⟩) ?_)
        all_goals (try simp only [seval, go_sem])
        all_goals (try (refine And.intro ?_ ?_))
        all_goals (try simp only [seval, go_sem])
        all_goals simp only [w3, w4]
        all_goals refine tT ?_; refine callP (l6frame p _ ((acked + sent) % 8) ack z5 (hb1.mono hz5) (by have := hI.qu p (by simp); omega)) rfl rfl ?_; rintro v z1 hz1 ⟨A3, k3, rfl, h3⟩; refine gO ?_
        all_goals (refine FinV.pk 999 [90, 91] ?_); dsimp only
        all_goals refine fP ?_
        all_goals simp only [w2]
        all_goals rw [show (flight ++ [p]).length = flight.length + 1 by simp]
        all_goals exact ⟨A6, A7, c6, k7, _, cs7, _, rfl, rfl, h3, hc6, hk7, (he4.mono (Zc.trans' hz5 hz1)).append (Els.single (d := pRep) ⟨_, rfl, hb1.mono (Zc.trans' hz5 hz1)⟩), he7.mono hz1⟩
      · exfalso; simp at hg; omega
    · rw [txSend_old hst hk9]
      have hlt : sent.toNat < flight.length := by omega
      obtain ⟨x, hx⟩ : ∃ x, flight[sent.toNat]? = some x := ⟨_, List.getElem?_eq_getElem hlt⟩
      rw [show flight.getD sent.toNat part0 = x by rw [List.getD_eq_getElem?_getD, hx]; rfl]
      obtain ⟨c1, ⟨v1, rfl, hb1⟩, hg1⟩ := he.get hx
      obtain ⟨A1, k1, rfl, hk1, hB1, hr1⟩ := hb1.form
      (refine spec_enterL [90, 91] Tryz.func117 ic117_ok fr117_ok Tryz.ntmps117 rfl ?_; simp only [seval, go_sem, ic117, fr117, zipL])
      refine vsI.atR 90 rfl fun hat => ?_
      refine gO ?_
      (with_reducible refine condI.split (fun hg => ?_) (fun hg => ?_) <;> (try simp only [hg]) <;> (try simp only [seval, go_sem]))
      · exfalso
        simp at hg
        omega
      · refine gO ?_
        (with_reducible refine joinV.id ?_; simp only [seval, go_sem])
        (refine ⟨⟨by omega, by omega, hat (by omega)⟩, ?_⟩; (try simp only [seval, go_sem]))
        refine And.intro ?_ ?_
        all_goals (try simp only [seval, go_sem])
        all_goals (refine ldF.agg (sz := 3) [.int .i64 x.seg, .int .i64 x.len, .slice A1 x.data.length k1] rfl (by exact .inr ⟨90, _, _, _, _, _, rfl, hg1⟩) ?_)
        all_goals (try simp only [seval, go_sem])
        all_goals (try (refine And.intro ?_ ?_))
        all_goals (try simp only [seval, go_sem])
        all_goals simp only [w3, w4]
        all_goals refine tT ?_; refine callP (l6frame x _ ((acked + sent) % 8) ack z hb1 (by have := hI.fl x (List.mem_of_getElem? hx); omega)) rfl rfl ?_; rintro v z1 hz1 ⟨A3, k3, rfl, h3⟩; refine gO ?_
        all_goals (refine FinV.pk 999 [90, 91] ?_); dsimp only
        all_goals refine fP ?_
        all_goals simp only [w2]
        all_goals exact ⟨A, B, a, b, cs, ds, _, rfl, rfl, h3, ha, hb, he.mono hz1, hd.mono hz1⟩
set_option maxHeartbeats 4000000
def ic51 : IC := (xR (xt (.box 24 (xr 0)) 1 (xt (.alc 31 [zI, zI, zI, zI, zI, zS, zS, zI]) 2 .done)) (.seq (xR (xtA 1 5 5 (xt (.call 80 [xr 5]) 6 (xtT 6 7 .done))) (.cond (xr 7) (xR (xt (.bld [zI, zI, zI, zI, zI, zS, zS, zI] []) 8 (xS 2 8 8 .done)) .ret) .skip)) (xR (xtA 1 5 9 (xt (.bld [zI, zI, zI, zI, zI, zS, zS, zI] [(0, (5, (xr 9)))]) 10 (xt (.alc 31 [zI, zI, zI, zI, zI, zS, zS, zI]) 3 (xS 3 10 8 .done)))) (.seq (xR (xt (.mv (xi 0)) 4 .done) (.block 0 (.loop (.seq (xR (xtM 4 11 (xt (.bin .lss (xr 11) (xi 2)) 12 .done)) (.cond (xr 12) .skip (.exit 0))) (.seq (.block 1 (xR (xtF 3 5 15 (xtO 15 16 (xt (.bld [zI, zI, zS, zI, zS, zB, zI, zB, zI, zB, zI, zI, zI, zS, zB, zB, zB, zI, zS, zI, zI, zB, zI, zI, zS, zB, zS, zS] []) 17 (xt (.bsl 49 28 1 [zI, zI, zS, zI, zS, zB, zI, zB, zI, zB, zI, zI, zI, zS, zB, zB, zB, zI, zS, zI, zI, zB, zI, zI, zS, zB, zS, zS] [(0, (xr 17))]) 18 (xt (.app 28 (xr 16) (xr 18)) 19 (xtF 3 5 20 (xS 20 19 1 .done))))))) (xQ (xtF 3 6 21 (xtO 21 22 (xt (.bsl 56 2 0 [zB, zS] []) 23 (xt (.bsl 50 1 1 [zS] [(0, (xr 23))]) 24 (xt (.app 29 (xr 22) (xr 24)) 25 (xtF 3 6 26 (xS 26 25 1 .done)))))))))) (xQ (xtM 4 13 (xt (.bin .add (xr 13) (xi 1)) 14 (xtM 14 4 .done))))))))) (xR (xtA 3 8 27 (xS 2 27 8 .done)) .ret)))))
theorem ic51_ok : Tryz.f51.body.bind (trC Tryz.prog []) = some ic51 := by kernel_rfl
def fr51 : List FR := [(FR.c 2 8 true)]
theorem fr51_ok : fres Tryz.prog Tryz.f51.results.toList = some fr51 := by kernel_rfl
def ic55 : IC := (xR (xt (.box 31 (xr 0)) 1 (xt (.alc 31 [zI, zI, zI, zI, zI, zS, zS, zI]) 2 .done)) (xR (xtF 1 0 9 (xtA 9 5 10 (xtF 1 7 11 (xtO 11 12 (xt (.bld [zI, zI, zI, zI, zI, zS, zS, zI] [(0, (5, (xr 10))), (7, (1, (xr 12)))]) 13 (xt (.alc 31 [zI, zI, zI, zI, zI, zS, zS, zI]) 3 (xS 3 13 8 .done))))))) (.seq (xR (xt (.mv (xi 0)) 4 .done) (.block 0 (.loop (.seq (xR (xtM 4 14 (xtF 1 5 15 (xtO 15 16 (xtL 16 17 (xt (.bin .lss (xr 14) (xr 17)) 18 .done))))) (.cond (xr 18) .skip (.exit 0))) (.seq (.block 1 (xR (xtF 1 5 21 (xtO 21 22 (xtM 4 23 (xtI 22 23 28 24 (xtA 24 28 25 (xt (.alc 49 [zI, zI, zS, zI, zS, zB, zI, zB, zI, zB, zI, zI, zI, zS, zB, zB, zB, zI, zS, zI, zI, zB, zI, zI, zS, zB, zS, zS]) 5 (xS 5 25 28 .done))))))) (xQ (xpF 3 5 26 (xlO 26 27 (xpF 5 0 28 (xlA 28 10 29 (xpF 5 10 31 (xlA 31 7 32 (xpF 5 17 34 (xlA 34 5 35 (xpF 5 22 37 (xlA 37 4 38 (xpF 5 26 40 (xlO 40 41 (xpF 5 27 43 (xlO 43 44 (xm (.call 90 [xr 29]) 30 (xm (.call 91 [xr 32]) 33 (xm (.call 92 [xr 35]) 36 (xm (.call 93 [xr 38]) 39 (xm (.call 94 [xr 41]) 42 (xm (.call 94 [xr 44]) 45 (xp (.bld [zI, zI, zS, zI, zS, zB, zI, zB, zI, zB, zI, zI, zI, zS, zB, zB, zB, zI, zS, zI, zI, zB, zI, zI, zS, zB, zS, zS] [(0, (10, (xr 30))), (10, (7, (xr 33))), (17, (5, (xr 36))), (22, (4, (xr 39))), (26, (1, (xr 42))), (27, (1, (xr 45)))]) 46 (xm (.bsl 49 28 1 [zI, zI, zS, zI, zS, zB, zI, zB, zI, zB, zI, zI, zI, zS, zB, zB, zB, zI, zS, zI, zI, zB, zI, zI, zS, zB, zS, zS] [(0, (xr 46))]) 47 (xm (.app 28 (xr 27) (xr 47)) 48 (xpF 3 5 49 (xS 49 48 1 .done)))))))))))))))))))))))))))) (xQ (xtM 4 19 (xt (.bin .add (xr 19) (xi 1)) 20 (xtM 20 4 .done))))))))) (.seq (xR (xt (.mv (xi 0)) 6 .done) (.block 2 (.loop (.seq (xR (xtM 6 50 (xtF 1 6 51 (xtO 51 52 (xtL 52 53 (xt (.bin .lss (xr 50) (xr 53)) 54 .done))))) (.cond (xr 54) .skip (.exit 2))) (.seq (.block 3 (xR (xt (.bsl 56 2 0 [zB, zS] []) 57 (xtM 57 7 .done)) (.seq (xR (xt (.mv (xi 0)) 8 .done) (.block 4 (.loop (.seq (xR (xtM 8 58 (xtF 1 6 59 (xtO 59 60 (xtM 6 61 (xtI 60 61 1 62 (xtO 62 63 (xtL 63 64 (xt (.bin .lss (xr 58) (xr 64)) 65 .done)))))))) (.cond (xr 65) .skip (.exit 4))) (.seq (.block 5 (xQ (xpM 7 68 (xpF 1 6 69 (xlO 69 70 (xpM 6 71 (xpI 70 71 1 72 (xlO 72 73 (xpM 8 74 (xpI 73 74 2 75 (xpF 75 0 76 (xlO 76 77 (xpF 1 6 79 (xlO 79 80 (xpM 6 81 (xpI 80 81 1 82 (xlO 82 83 (xpM 8 84 (xpI 83 84 2 85 (xpF 85 1 86 (xlO 86 87 (xm (.bsl 5 1 0 [(.int .u8 0)] []) 78 (xm (.app 22 (xr 78) (xr 87)) 88 (xp (.bld [zB, zS] [(0, (1, (xr 77))), (1, (1, (xr 88)))]) 89 (xm (.bsl 56 2 1 [zB, zS] [(0, (xr 89))]) 90 (xm (.app 50 (xr 68) (xr 90)) 91 (xpM 91 7 .done))))))))))))))))))))))))))) (xQ (xtM 8 66 (xt (.bin .add (xr 66) (xi 1)) 67 (xtM 67 8 .done))))))))) (xQ (xtF 3 6 92 (xtO 92 93 (xtM 7 94 (xt (.bsl 50 1 1 [zS] [(0, (xr 94))]) 95 (xt (.app 29 (xr 93) (xr 95)) 96 (xtF 3 6 97 (xS 97 96 1 .done))))))))))) (xQ (xtM 6 55 (xt (.bin .add (xr 55) (xi 1)) 56 (xtM 56 6 .done))))))))) (xR (xtA 3 8 98 (xS 2 98 8 .done)) .ret)))))
theorem ic55_ok : Tryz.f55.body.bind (trC Tryz.prog []) = some ic55 := by kernel_rfl
def fr55 : List FR := [(FR.c 2 8 true)]
theorem fr55_ok : fres Tryz.prog Tryz.f55.results.toList = some fr55 := by kernel_rfl
def ic119 : IC := (xR (xt (.box 31 (xr 0)) 3 (xt (.box 52 (xr 2)) 5 (xt (.alc 31 [zI, zI, zI, zI, zI, zS, zS, zI]) 6 .done))) (xR (xtA 5 9 8 (xt (.call 82 [xr 8]) 9 (xtM 9 7 .done))) (.seq (xR (xtM 7 10 (xtL 10 11 (xt (.bin .gtr (xr 11) (xi 0)) 12 (xtM 12 13 (xG (.fad (xr 3) 6) 14 13 true (xG (.ld (xr 14) 1 false) 15 13 true (xG (.mv (xr 1)) 16 13 true (xG (.iad (xr 15) (xr 16) 1) 17 13 true (xG (.ld (xr 17) 1 false) 18 13 true (xG (.len (xr 18)) 19 13 true (xG (.bin .lss (xr 19) (xi 30)) 20 13 true (xt (.pick (xr 13) (xr 20) (xb false)) 21 .done)))))))))))) (.cond (xr 21) (.join [] (xpF 3 6 22 (xlO 22 23 (xpM 1 24 (xpF 3 6 25 (xlO 25 26 (xpM 1 27 (xpI 26 27 1 28 (xpM 7 30 (xp (.bld [zB, zS] [(1, (1, (xr 30)))]) 31 (.alt (xmO 28 29 (xm (.bsl 56 2 1 [zB, zS] [(0, (xr 31))]) 32 (xm (.app 50 (xr 29) (xr 32)) 33 (xpI 23 24 1 34 (xS 34 33 1 .done))))) (xm (.bsl 56 2 1 [zB, zS] [(0, (xr 31))]) 32 (xmO 28 29 (xm (.app 50 (xr 29) (xr 32)) 33 (xpI 23 24 1 34 (xS 34 33 1 .done)))))))))))))))) .skip)) (xR (xtA 3 8 35 (xS 6 35 8 .done)) .ret))))
theorem ic119_ok : Tryz.f119.body.bind (trC Tryz.prog [1000028]) = some ic119 := by kernel_rfl
def fr119 : List FR := [(FR.c 6 8 true)]
theorem fr119_ok : fres Tryz.prog Tryz.f119.results.toList = some fr119 := by kernel_rfl
def ic122 : IC := (xR (xt (.box 31 (xr 0)) 3 (xt (.alc 31 [zI, zI, zI, zI, zI, zS, zS, zI]) 6 .done)) (.seq (xR (xt (.mv (xi 0)) 7 .done) (.block 0 (.loop (.seq (xR (xtM 7 8 (xtM 2 9 (xtL 9 10 (xt (.bin .lss (xr 8) (xr 10)) 11 .done)))) (.cond (xr 11) .skip (.exit 0))) (.seq (.block 1 (xQ (xlA 3 8 14 (xpM 1 15 (xpM 2 16 (xpM 7 17 (xpI 16 17 9 18 (xlA 18 9 19 (xm (.call 119 [xr 14, xr 15, xr 19]) 20 (xS 3 20 8 .done)))))))))) (xQ (xtM 7 12 (xt (.bin .add (xr 12) (xi 1)) 13 (xtM 13 7 .done))))))))) (xR (xtA 3 8 21 (xS 6 21 8 .done)) .ret)))
theorem ic122_ok : Tryz.f122.body.bind (trC Tryz.prog []) = some ic122 := by kernel_rfl
def fr122 : List FR := [(FR.c 6 8 true)]
theorem fr122_ok : fres Tryz.prog Tryz.f122.results.toList = some fr122 := by kernel_rfl
def ic158 : IC := (xR (xt (.box 31 (xr 0)) 3 (xt (.alc 31 [zI, zI, zI, zI, zI, zS, zS, zI]) 6 .done)) (.seq (xR (xt (.mv (xi 0)) 7 .done) (.block 0 (.loop (.seq (xR (xtM 7 8 (xtM 2 9 (xtL 9 10 (xt (.bin .lss (xr 8) (xr 10)) 11 .done)))) (.cond (xr 11) .skip (.exit 0))) (.seq (.block 1 (xR (xtF 3 5 14 (xtO 14 15 (xtM 1 16 (xtI 15 16 28 17 (xtF 17 27 18 (xtO 18 19 (xtL 19 20 (xt (.bin .lss (xr 20) (xi 60)) 21 .done)))))))) (.cond (xr 21) (.join [] (xpF 3 5 22 (xlO 22 23 (xpM 1 24 (xpF 3 5 25 (xlO 25 26 (xpM 1 27 (xpI 26 27 28 28 (xpF 28 27 29 (xpM 2 31 (xpM 7 32 (xpI 31 32 1 33 (xlO 33 34 (.alt (xmO 29 30 (xm (.bsl 22 1 1 [zS] [(0, (xr 34))]) 35 (xm (.app 47 (xr 30) (xr 35)) 36 (xpI 23 24 28 37 (xpF 37 27 38 (xS 38 36 1 .done)))))) (xm (.bsl 22 1 1 [zS] [(0, (xr 34))]) 35 (xmO 29 30 (xm (.app 47 (xr 30) (xr 35)) 36 (xpI 23 24 28 37 (xpF 37 27 38 (xS 38 36 1 .done)))))))))))))))))))) .skip))) (xQ (xtM 7 12 (xt (.bin .add (xr 12) (xi 1)) 13 (xtM 13 7 .done))))))))) (xR (xtA 3 8 39 (xS 6 39 8 .done)) .ret)))
theorem ic158_ok : Tryz.f158.body.bind (trC Tryz.prog [1000029]) = some ic158 := by kernel_rfl
def fr158 : List FR := [(FR.c 6 8 true)]
theorem fr158_ok : fres Tryz.prog Tryz.f158.results.toList = some fr158 := by kernel_rfl
def ic85 : IC := (xR (xt (.box 31 (xr 0)) 3 (xt (.alc 31 [zI, zI, zI, zI, zI, zS, zS, zI]) 6 .done)) (xR (xtF 3 5 9 (xtO 9 10 (xtM 1 11 (xtI 10 11 28 12 (xtA 12 28 13 (xt (.alc 49 [zI, zI, zS, zI, zS, zB, zI, zB, zI, zB, zI, zI, zI, zS, zB, zB, zB, zI, zS, zI, zI, zB, zI, zI, zS, zB, zS, zS]) 7 (xS 7 13 28 .done))))))) (.seq (xR (xtF 7 26 14 (xtO 14 15 (xtL 15 16 (xt (.bin .eql (xr 16) (xi 60)) 17 .done)))) (.cond (xr 17) (xR (xtA 3 8 18 (xS 6 18 8 .done)) .ret) .skip)) (xR (xt (.mv (xb false)) 8 .done) (.seq (xR (xtF 3 0 19 (xtF 19 0 20 (xtO 20 21 (xt (.bin .eql (xr 21) (xi 1)) 22 .done)))) (.cond (xr 22) (xQ (xpF 3 5 24 (xlO 24 25 (xpM 1 26 (xpF 3 0 27 (xlA 27 5 28 (xpF 7 0 29 (xlA 29 10 30 (xpM 2 31 (xm (.call 115 [xr 28, xr 30, xr 31]) 32 (xpM 32 23 (xpE 23 0 33 (xpE 23 1 34 (xpI 25 26 28 35 (xpF 35 0 36 (xS 36 33 10 (xpM 34 8 .done))))))))))))))))) (xQ (xpF 3 5 38 (xlO 38 39 (xpM 1 40 (xpF 3 0 41 (xlA 41 5 42 (xpF 7 17 43 (xlA 43 5 44 (xpM 2 45 (xm (.call 116 [xr 42, xr 44, xr 45]) 46 (xpM 46 37 (xpE 37 0 47 (xpE 37 1 48 (xpI 39 40 28 49 (xpF 49 17 50 (xS 50 47 5 (xpM 48 8 .done))))))))))))))))))) (.seq (xR (xtM 8 51 .done) (.cond (xr 51) (xQ (xpF 3 5 52 (xlO 52 53 (xpM 1 54 (xpF 7 26 55 (xlO 55 56 (xpM 2 58 (xm (.bsl 5 1 0 [(.int .u8 0)] []) 57 (xm (.app 22 (xr 57) (xr 58)) 59 (xm (.bsl 22 1 1 [zS] [(0, (xr 59))]) 60 (xm (.app 47 (xr 56) (xr 60)) 61 (xpI 53 54 28 62 (xpF 62 26 63 (xS 63 61 1 .done)))))))))))))) .skip)) (xR (xtA 3 8 64 (xS 6 64 8 .done)) .ret)))))))
theorem ic85_ok : Tryz.f85.body.bind (trC Tryz.prog []) = some ic85 := by kernel_rfl
def fr85 : List FR := [(FR.c 6 8 true)]
theorem fr85_ok : fres Tryz.prog Tryz.f85.results.toList = some fr85 := by kernel_rfl
def ic86 : IC := (xR (xt (.box 31 (xr 0)) 2 (xt (.alc 31 [zI, zI, zI, zI, zI, zS, zS, zI]) 4 .done)) (xR (xtF 2 5 8 (xtO 8 9 (xtM 1 10 (xtI 9 10 28 11 (xtA 11 28 12 (xt (.alc 49 [zI, zI, zS, zI, zS, zB, zI, zB, zI, zB, zI, zI, zI, zS, zB, zB, zB, zI, zS, zI, zI, zB, zI, zI, zS, zB, zS, zS]) 5 (xS 5 12 28 .done))))))) (.seq (xR (xtF 2 6 13 (xtO 13 14 (xtM 1 15 (xt (.bin .sub (xi 1) (xr 15)) 16 (xtI 14 16 1 17 (xtO 17 18 (xtL 18 19 (xt (.bin .eql (xr 19) (xi 30)) 20 .done)))))))) (.cond (xr 20) (xR (xtA 2 8 21 (xS 4 21 8 .done)) .ret) .skip)) (xR (xt (.bld [zI, zI, zI, zB, zB, zI, zI, zI, zS] []) 22 (xt (.alc 52 [zI, zI, zI, zB, zB, zI, zI, zI, zS]) 6 (xS 6 22 9 .done))) (xR (xt (.mv (xb false)) 7 .done) (.seq (xR (xtF 2 0 23 (xtF 23 0 24 (xtO 24 25 (xt (.bin .eql (xr 25) (xi 1)) 26 .done)))) (.cond (xr 26) (.reg [6] (xpF 2 5 28 (xlO 28 29 (xpM 1 30 (xpF 2 0 31 (xlA 31 5 32 (xpF 5 0 33 (xlA 33 10 34 (xpF 5 10 35 (xpF 35 0 36 (xlO 36 37 (xm (.call 117 [xr 32, xr 34, xr 37]) 38 (xpM 38 27 (xpE 27 0 39 (xpE 27 1 40 (xpE 27 2 41 (xpI 29 30 28 42 (xpF 42 0 43 (xS 43 39 10 (xS 6 40 9 (xpM 41 7 .done))))))))))))))))))))) (.reg [6] (xpF 2 5 45 (xlO 45 46 (xpM 1 47 (xpF 2 0 48 (xlA 48 5 49 (xpF 5 17 50 (xlA 50 5 51 (xm (.call 118 [xr 49, xr 51]) 52 (xpM 52 44 (xpE 44 0 53 (xpE 44 1 54 (xpE 44 2 55 (xpI 46 47 28 56 (xpF 56 17 57 (xS 57 53 5 (xS 6 54 9 (xpM 55 7 .done)))))))))))))))))))) (.seq (xR (xtM 7 58 .done) (.cond (xr 58) (xR (xtA 2 8 59 (xtM 1 60 (xt (.bin .sub (xi 1) (xr 60)) 61 (xtA 6 9 62 (xt (.call 119 [xr 59, xr 61, xr 62]) 63 (xS 4 63 8 .done)))))) .ret) .skip)) (xR (xtA 2 8 64 (xS 4 64 8 .done)) .ret))))))))
theorem ic86_ok : Tryz.f86.body.bind (trC Tryz.prog []) = some ic86 := by kernel_rfl
def fr86 : List FR := [(FR.c 4 8 true)]
theorem fr86_ok : fres Tryz.prog Tryz.f86.results.toList = some fr86 := by kernel_rfl
def ic87 : IC := (xR (xt (.box 31 (xr 0)) 2 (xt (.alc 31 [zI, zI, zI, zI, zI, zS, zS, zI]) 4 .done)) (xR (xtF 2 5 9 (xtO 9 10 (xtM 1 11 (xtI 10 11 28 12 (xtA 12 28 13 (xt (.alc 49 [zI, zI, zS, zI, zS, zB, zI, zB, zI, zB, zI, zI, zI, zS, zB, zB, zB, zI, zS, zI, zI, zB, zI, zI, zS, zB, zS, zS]) 5 (xS 5 13 28 .done))))))) (.seq (xR (xtF 2 0 14 (xtF 14 0 15 (xtO 15 16 (xt (.bin .neq (xr 16) (xi 1)) 17 .done)))) (.cond (xr 17) (xR (xtA 2 8 18 (xS 4 18 8 .done)) .ret) .skip)) (xR (xtF 2 0 20 (xtA 20 5 21 (xtF 5 0 22 (xtA 22 10 23 (xtF 5 10 24 (xtF 24 0 25 (xtO 25 26 (xtF 5 10 27 (xtF 27 5 28 (xtO 28 29 (xt (.call 120 [xr 21, xr 23, xr 26, xr 29]) 30 (xtM 30 19 (xtE 19 0 31 (xtE 19 1 32 (xtE 19 2 33 (xt (.alc 38 [zI, zI, zS, zI, zS, zB, zI, zB, zI, zB]) 6 (xt (.alc 52 [zI, zI, zI, zB, zB, zI, zI, zI, zS]) 7 (xS 6 31 10 (xS 7 32 9 (xtM 33 8 .done)))))))))))))))))))) (xR (xtF 2 5 34 (xtO 34 35 (xtM 1 36 (xtA 6 10 37 (xtI 35 36 28 38 (xtF 38 0 39 (xS 39 37 10 .done))))))) (.seq (xR (xtM 8 40 .done) (.cond (xr 40) (xR (xtA 2 8 41 (xtM 1 42 (xt (.bin .sub (xi 1) (xr 42)) 43 (xtA 7 9 44 (xt (.call 119 [xr 41, xr 43, xr 44]) 45 (xS 4 45 8 .done)))))) .ret) .skip)) (xR (xtA 2 8 46 (xS 4 46 8 .done)) .ret)))))))
theorem ic87_ok : Tryz.f87.body.bind (trC Tryz.prog []) = some ic87 := by kernel_rfl
def fr87 : List FR := [(FR.c 4 8 true)]
theorem fr87_ok : fres Tryz.prog Tryz.f87.results.toList = some fr87 := by kernel_rfl
def ic88 : IC := (xR (xt (.box 31 (xr 0)) 2 (xt (.box 35 (xr 1)) 3 (xt (.alc 31 [zI, zI, zI, zI, zI, zS, zS, zI]) 4 .done))) (xR (xtF 2 5 11 (xtO 11 12 (xtF 3 1 13 (xtO 13 14 (xtI 12 14 28 15 (xtA 15 28 16 (xt (.alc 49 [zI, zI, zS, zI, zS, zB, zI, zB, zI, zB, zI, zI, zI, zS, zB, zB, zB, zI, zS, zI, zI, zB, zI, zI, zS, zB, zS, zS]) 5 (xS 5 16 28 .done)))))))) (.seq (.block 0 (xR (xtF 3 0 18 (xtO 18 19 (xt (.bin .eql (xr 19) (xi 4)) 20 (xtM 20 21 (xG (.fad (xr 2) 0) 22 21 true (xG (.fad (xr 22) 0) 23 21 true (xG (.ld (xr 23) 1 false) 24 21 true (xG (.bin .eql (xr 24) (xi 1)) 25 21 true (xt (.pick (xr 21) (xr 25) (xb false)) 26 (xtM 26 17 .done)))))))))) (.cond (xr 17) (xR (xtF 5 10 28 (xtA 28 7 29 (xtF 3 3 30 (xtO 30 31 (xt (.bin .eql (xr 31) (xi 1)) 32 (xt (.call 121 [xr 29, xr 32]) 33 (xtM 33 27 (xtE 27 0 34 (xtE 27 1 35 (xt (.alc 42 [zI, zI, zI, zS, zB, zB, zB]) 6 (xS 6 34 7 (xtM 35 7 .done)))))))))))) (xR (xtF 2 5 36 (xtO 36 37 (xtF 3 1 38 (xtO 38 39 (xtA 6 7 40 (xtI 37 39 28 41 (xtF 41 10 42 (xS 42 40 7 .done)))))))) (xR (xtA 2 8 43 (xtF 3 1 44 (xtO 44 45 (xt (.bin .sub (xi 1) (xr 45)) 46 (xtM 7 47 (xt (.call 122 [xr 43, xr 46, xr 47]) 48 (xS 4 48 8 .done))))))) .ret))) (xR (xtF 3 0 50 (xtO 50 51 (xt (.bin .eql (xr 51) (xi 5)) 52 (xtM 52 53 (xG (.fad (xr 2) 0) 54 53 true (xG (.fad (xr 54) 0) 55 53 true (xG (.ld (xr 55) 1 false) 56 53 true (xG (.bin .eql (xr 56) (xi 1)) 57 53 true (xt (.pick (xr 53) (xr 57) (xb false)) 58 (xtM 58 59 (xG (.fad (xr 5) 10) 60 59 true (xG (.fad (xr 60) 6) 61 59 true (xG (.ld (xr 61) 1 false) 62 59 true (xG (.not (xr 62)) 63 59 true (xt (.pick (xr 59) (xr 63) (xb false)) 64 (xtM 64 49 .done)))))))))))))))) (.cond (xr 49) (.seq (.reg [4] (xlA 2 8 65 (xpF 3 1 66 (xlO 66 67 (xp (.bin .sub (xi 1) (xr 67)) 68 (xpF 5 10 69 (xlA 69 7 70 (xm (.call 123 [xr 70, (xb false)]) 71 (xm (.call 119 [xr 65, xr 68, xr 71]) 72 (.op .m (.sto (xr 4) (xr 72) 8) none none .done)))))))))) .ret) (xR (xtF 3 0 74 (xtO 74 75 (xt (.bin .eql (xr 75) (xi 6)) 76 (xtM 76 77 (xG (.fad (xr 2) 0) 78 77 true (xG (.fad (xr 78) 0) 79 77 true (xG (.ld (xr 79) 1 false) 80 77 true (xG (.bin .eql (xr 80) (xi 2)) 81 77 true (xt (.pick (xr 77) (xr 81) (xb false)) 82 (xtM 82 83 (xG (.fad (xr 2) 6) 84 83 true (xG (.ld (xr 84) 1 false) 85 83 true (xG (.fad (xr 3) 1) 86 83 true (xG (.ld (xr 86) 1 false) 87 83 true (xG (.bin .sub (xi 1) (xr 87)) 88 83 true (xG (.iad (xr 85) (xr 88) 1) 89 83 true (xG (.ld (xr 89) 1 false) 90 83 true (xG (.len (xr 90)) 91 83 true (xG (.bin .lss (xr 91) (xi 30)) 92 83 true (xt (.pick (xr 83) (xr 92) (xb false)) 93 (xtM 93 73 .done))))))))))))))))))))) (.cond (xr 73) (xR (xtF 5 22 95 (xtA 95 4 96 (xt (.call 124 [xr 96]) 97 (xtM 97 94 (xtE 94 0 98 (xtE 94 1 99 (xtE 94 2 100 (xt (.alc 46 [zI, zI, zS, zB]) 8 (xt (.alc 52 [zI, zI, zI, zB, zB, zI, zI, zI, zS]) 9 (xS 8 98 4 (xS 9 99 9 (xtM 100 10 .done)))))))))))) (xR (xtF 2 5 101 (xtO 101 102 (xtF 3 1 103 (xtO 103 104 (xtA 8 4 105 (xtI 102 104 28 106 (xtF 106 22 107 (xS 107 105 4 .done)))))))) (xR (xtM 10 108 .done) (.cond (xr 108) (xR (xtA 2 8 109 (xtF 3 1 110 (xtO 110 111 (xt (.bin .sub (xi 1) (xr 111)) 112 (xtA 9 9 113 (xt (.call 119 [xr 109, xr 112, xr 113]) 114 (xS 4 114 8 .done))))))) .ret) .skip)))) .skip))))))) (xR (xtA 2 8 115 (xS 4 115 8 .done)) .ret))))
theorem ic88_ok : Tryz.f88.body.bind (trC Tryz.prog []) = some ic88 := by kernel_rfl
def fr88 : List FR := [(FR.c 4 8 true)]
theorem fr88_ok : fres Tryz.prog Tryz.f88.results.toList = some fr88 := by kernel_rfl
def ic155 : IC := (xR (xt (.box 31 (xr 0)) 3 (xt (.box 52 (xr 2)) 5 (xt (.alc 31 [zI, zI, zI, zI, zI, zS, zS, zI]) 6 .done))) (xR (xtF 3 5 11 (xtO 11 12 (xtM 1 13 (xtI 12 13 28 14 (xtA 14 28 15 (xt (.alc 49 [zI, zI, zS, zI, zS, zB, zI, zB, zI, zB, zI, zI, zI, zS, zB, zB, zB, zI, zS, zI, zI, zB, zI, zI, zS, zB, zS, zS]) 7 (xS 7 15 28 .done))))))) (xR (xpF 3 5 16 (xlO 16 17 (xpM 1 18 (xpF 7 0 19 (xlA 19 10 20 (xlA 5 9 21 (xm (.call 171 [xr 20, xr 21]) 22 (xpI 17 18 28 23 (xpF 23 0 24 (xS 24 22 10 .done)))))))))) (xR (xtF 3 0 26 (xtA 26 5 27 (xtF 7 10 28 (xtA 28 7 29 (xtA 5 9 30 (xt (.call 172 [xr 27, xr 29, xr 30]) 31 (xtM 31 25 (xtE 25 0 32 (xtE 25 1 33 (xtE 25 2 34 (xt (.alc 42 [zI, zI, zI, zS, zB, zB, zB]) 8 (xS 8 32 7 (xtM 33 9 (xtM 34 10 .done)))))))))))))) (xR (xtF 3 5 35 (xtO 35 36 (xtM 1 37 (xtA 8 7 38 (xtI 36 37 28 39 (xtF 39 10 40 (xS 40 38 7 .done))))))) (xR (xtA 3 8 41 (xtM 1 42 (xtM 9 43 (xt (.call 158 [xr 41, xr 42, xr 43]) 44 (xtM 1 45 (xt (.bin .sub (xi 1) (xr 45)) 46 (xtM 10 47 (xt (.call 122 [xr 44, xr 46, xr 47]) 48 (xS 6 48 8 .done))))))))) .ret))))))
theorem ic155_ok : Tryz.f155.body.bind (trC Tryz.prog []) = some ic155 := by kernel_rfl
def fr155 : List FR := [(FR.c 6 8 true)]
theorem fr155_ok : fres Tryz.prog Tryz.f155.results.toList = some fr155 := by kernel_rfl
def ic127 : IC := (xR (xt (.box 31 (xr 0)) 3 (xt (.box 52 (xr 2)) 5 (xt (.alc 31 [zI, zI, zI, zI, zI, zS, zS, zI]) 6 .done))) (.seq (xR (xtF 3 0 10 (xtF 10 0 11 (xtO 11 12 (xt (.bin .eql (xr 12) (xi 1)) 13 .done)))) (.cond (xr 13) (.seq (xR (xtF 5 0 14 (xtO 14 15 (xt (.bin .eql (xr 15) (xi 1)) 16 (xtM 16 17 (xG (.fad (xr 5) 0) 18 17 false (xG (.ld (xr 18) 1 false) 19 17 false (xG (.bin .eql (xr 19) (xi 2)) 20 17 false (xt (.pick (xr 17) (xb true) (xr 20)) 21 .done)))))))) (.cond (xr 21) (xR (xtA 3 8 22 (xtM 1 23 (xtA 5 9 24 (xt (.call 155 [xr 22, xr 23, xr 24]) 25 (xS 6 25 8 .done))))) .ret) .skip)) (xR (xtA 3 8 26 (xS 6 26 8 .done)) .ret)) .skip)) (xR (xtF 3 5 27 (xtO 27 28 (xtM 1 29 (xtI 28 29 28 30 (xtA 30 28 31 (xt (.alc 49 [zI, zI, zS, zI, zS, zB, zI, zB, zI, zB, zI, zI, zI, zS, zB, zB, zB, zI, zS, zI, zI, zB, zI, zI, zS, zB, zS, zS]) 7 (xS 7 31 28 .done))))))) (.seq (xR (xtF 5 0 32 (xtO 32 33 (xt (.bin .eql (xr 33) (xi 4)) 34 .done))) (.cond (xr 34) (xQ (xpF 3 5 35 (xlO 35 36 (xpM 1 37 (xpF 3 0 38 (xlA 38 5 39 (xpF 7 17 40 (xlA 40 5 41 (xpF 5 7 42 (xlO 42 43 (xm (.call 156 [xr 39, xr 41, xr 43]) 44 (xpI 36 37 28 45 (xpF 45 17 46 (xS 46 44 5 .done)))))))))))))) .skip)) (.seq (xR (xtF 5 0 47 (xtO 47 48 (xt (.bin .eql (xr 48) (xi 3)) 49 .done))) (.cond (xr 49) (xR (xtF 3 0 51 (xtA 51 5 52 (xtF 7 22 53 (xtA 53 4 54 (xtA 5 9 55 (xt (.call 157 [xr 52, xr 54, xr 55]) 56 (xtM 56 50 (xtE 50 0 57 (xtE 50 1 58 (xt (.alc 46 [zI, zI, zS, zB]) 8 (xS 8 57 4 (xtM 58 9 .done)))))))))))) (xR (xtF 3 5 59 (xtO 59 60 (xtM 1 61 (xtA 8 4 62 (xtI 60 61 28 63 (xtF 63 22 64 (xS 64 62 4 .done))))))) (xR (xtA 3 8 65 (xtM 1 66 (xtM 9 67 (xt (.call 158 [xr 65, xr 66, xr 67]) 68 (xS 6 68 8 .done))))) .ret))) .skip)) (xR (xtA 3 8 69 (xS 6 69 8 .done)) .ret))))))
theorem ic127_ok : Tryz.f127.body.bind (trC Tryz.prog []) = some ic127 := by kernel_rfl
def fr127 : List FR := [(FR.c 6 8 true)]
theorem fr127_ok : fres Tryz.prog Tryz.f127.results.toList = some fr127 := by kernel_rfl
def ic125 : IC := (xR (xt (.box 31 (xr 0)) 2 (xt (.alc 31 [zI, zI, zI, zI, zI, zS, zS, zI]) 4 (xt (.alc 56 [zB, zS]) 5 .done))) (xR (xtF 2 6 7 (xtO 7 8 (xtM 1 9 (xtI 8 9 1 10 (xtO 10 11 (xt (.iad (xr 11) (xi 0) 2) 12 (xtA 12 2 13 (xt (.alc 56 [zB, zS]) 6 (xS 6 13 2 .done))))))))) (.seq (.join [] (xpF 2 6 14 (xlO 14 15 (xpM 1 16 (xpF 2 6 18 (xlO 18 19 (xpM 1 20 (xpI 19 20 1 21 (.alt (xm (.bsl 56 2 0 [zB, zS] []) 17 (xmO 21 22 (xp (.slc (xr 22) (some (xi 1)) none 2) 23 (xm (.app 50 (xr 17) (xr 23)) 24 (xpI 15 16 1 25 (xS 25 24 1 .done)))))) (xmO 21 22 (xp (.slc (xr 22) (some (xi 1)) none 2) 23 (xm (.bsl 56 2 0 [zB, zS] []) 17 (xm (.app 50 (xr 17) (xr 23)) 24 (xpI 15 16 1 25 (xS 25 24 1 .done))))))))))))))) (.seq (.reg [4, 5] (xlA 2 8 26 (xlA 6 2 27 (.op .m (.sto (xr 4) (xr 26) 8) none none (.op .m (.sto (xr 5) (xr 27) 2) none none .done))))) .ret))))
theorem ic125_ok : Tryz.f125.body.bind (trC Tryz.prog [1000021]) = some ic125 := by kernel_rfl
def fr125 : List FR := [(FR.c 4 8 true), (FR.c 5 2 true)]
theorem fr125_ok : fres Tryz.prog Tryz.f125.results.toList = some fr125 := by kernel_rfl
def ic89 : IC := (xR (xt (.box 31 (xr 0)) 2 (xt (.box 35 (xr 1)) 3 (xt (.alc 31 [zI, zI, zI, zI, zI, zS, zS, zI]) 4 .done))) (.seq (xR (xtF 2 6 12 (xtO 12 13 (xtF 3 1 14 (xtO 14 15 (xtI 13 15 1 16 (xtO 16 17 (xtL 17 18 (xt (.bin .eql (xr 18) (xi 0)) 19 .done)))))))) (.cond (xr 19) (xR (xtA 2 8 20 (xS 4 20 8 .done)) .ret) .skip)) (.seq (xR (xtF 3 0 21 (xtO 21 22 .done)) (.block 0 (xR (xt (.bin .eql (xr 22) (xi 7)) 24 (xtM 24 23 .done)) (.cond (xr 23) (xR (xtA 2 8 26 (xtF 3 1 27 (xtO 27 28 (xt (.call 125 [xr 26, xr 28]) 29 (xtM 29 25 (xtE 25 0 30 (xtE 25 1 31 (xt (.alc 31 [zI, zI, zI, zI, zI, zS, zS, zI]) 5 (xt (.alc 56 [zB, zS]) 6 (xS 5 30 8 (xS 6 31 2 .done))))))))))) (xR (xtF 6 1 33 (xtO 33 34 (xt (.call 126 [xr 34]) 35 (xtM 35 32 (xtE 32 0 36 (xtE 32 1 37 (xt (.alc 52 [zI, zI, zI, zB, zB, zI, zI, zI, zS]) 7 (xS 7 36 9 (xtM 37 8 .done))))))))) (.seq (xR (xtM 8 38 (xtT 38 39 .done)) (.cond (xr 39) (xR (xtA 5 8 40 (xS 4 40 8 .done)) .ret) .skip)) (xR (xtA 5 8 41 (xtF 3 1 42 (xtO 42 43 (xtA 7 9 44 (xt (.call 127 [xr 41, xr 43, xr 44]) 45 (xS 4 45 8 .done)))))) .ret)))) (xR (xt (.bin .eql (xr 22) (xi 8)) 47 (xtM 47 46 .done)) (.cond (xr 46) (xR (xtA 2 8 49 (xtF 3 1 50 (xtO 50 51 (xt (.call 125 [xr 49, xr 51]) 52 (xtM 52 48 (xtE 48 0 53 (xtE 48 1 54 (xt (.alc 31 [zI, zI, zI, zI, zI, zS, zS, zI]) 9 (xt (.alc 56 [zB, zS]) 10 (xS 9 53 8 (xS 10 54 2 .done))))))))))) (xR (xtA 9 8 55 (xS 4 55 8 .done)) .ret)) .skip)))))) (xR (xtF 2 6 56 (xtO 56 57 (xtF 3 1 58 (xtO 58 59 (xtI 57 59 1 60 (xtO 60 61 (xt (.iad (xr 61) (xi 0) 2) 62 (xtA 62 2 63 (xt (.alc 56 [zB, zS]) 11 (xS 11 63 2 .done)))))))))) (.seq (xR (xtF 11 0 64 (xtO 64 65 (xtM 65 66 (xG (.fad (xr 3) 2) 67 66 false (xG (.ld (xr 67) 1 false) 68 66 false (xG (.fad (xr 11) 1) 69 66 false (xG (.ld (xr 69) 1 false) 70 66 false (xG (.len (xr 70)) 71 66 false (xG (.bin .sub (xr 71) (xi 1)) 72 66 false (xG (.call 84 [xr 68, (xi 0), xr 72]) 73 66 false (xG (.not (xr 73)) 74 66 false (xt (.pick (xr 66) (xb true) (xr 74)) 75 (xtM 75 76 (xG (.fad (xr 3) 3) 77 76 false (xG (.ld (xr 77) 1 false) 78 76 false (xG (.call 84 [xr 78, (xi 1), (xi 255)]) 79 76 false (xG (.not (xr 79)) 80 76 false (xt (.pick (xr 76) (xb true) (xr 80)) 81 .done)))))))))))))))))) (.cond (xr 81) (xR (xtA 2 8 82 (xS 4 82 8 .done)) .ret) .skip)) (xR (xpF 11 1 83 (xlO 83 84 (xpF 3 2 85 (xlO 85 86 (xpF 11 1 87 (xlO 87 88 (xpF 3 2 89 (xlO 89 90 (xpI 88 90 1 91 (xpF 3 3 93 (xlO 93 94 (xp (.cvi .u8 (xr 94)) 95 (xmO 91 92 (xp (.bin .xor (xr 92) (xr 95)) 96 (xpI 84 86 1 97 (xS 97 96 1 .done)))))))))))))))) (xR (xtF 11 0 98 (.op .t (.sto (xr 98) (xb true) 1) none none .done)) (xR (xpF 2 6 99 (xlO 99 100 (xpF 3 1 101 (xlO 101 102 (xpI 100 102 1 103 (xlA 11 2 105 (xmO 103 104 (xp (.iad (xr 104) (xi 0) 2) 106 (xS 106 105 2 .done))))))))) (xR (xtA 2 8 107 (xS 4 107 8 .done)) .ret)))))))))
theorem ic89_ok : Tryz.f89.body.bind (trC Tryz.prog [1000091, 1000103]) = some ic89 := by kernel_rfl
def fr89 : List FR := [(FR.c 4 8 true)]
theorem fr89_ok : fres Tryz.prog Tryz.f89.results.toList = some fr89 := by kernel_rfl
def ic54 : IC := (xR (xt (.box 31 (xr 0)) 2 (xt (.box 35 (xr 1)) 3 (xt (.alc 31 [zI, zI, zI, zI, zI, zS, zS, zI]) 4 .done))) (.seq (xR (xtF 3 1 5 (xtO 5 6 (xt (.call 84 [xr 6, (xi 0), (xi 1)]) 7 (xtT 7 8 .done)))) (.cond (xr 8) (xR (xtA 2 8 9 (xS 4 9 8 .done)) .ret) .skip)) (.seq (xR (xtF 3 0 10 (xtO 10 11 .done)) (.block 0 (xR (xt (.bin .eql (xr 11) (xi 1)) 13 (xtM 13 12 .done)) (.cond (xr 12) (xR (xtA 2 8 14 (xtF 3 1 15 (xtO 15 16 (xtF 3 4 17 (xtO 17 18 (xt (.call 85 [xr 14, xr 16, xr 18]) 19 (xS 4 19 8 .done))))))) .ret) (xR (xt (.bin .eql (xr 11) (xi 2)) 21 (xtM 21 20 .done)) (.cond (xr 20) (xR (xtA 2 8 22 (xtF 3 1 23 (xtO 23 24 (xt (.call 86 [xr 22, xr 24]) 25 (xS 4 25 8 .done))))) .ret) (xR (xt (.bin .eql (xr 11) (xi 3)) 27 (xtM 27 26 .done)) (.cond (xr 26) (xR (xtA 2 8 28 (xtF 3 1 29 (xtO 29 30 (xt (.call 87 [xr 28, xr 30]) 31 (xS 4 31 8 .done))))) .ret) (.seq (xR (xt (.bin .eql (xr 11) (xi 4)) 33 (xtM 33 32 .done)) (.cond (xr 32) .skip (xR (xt (.bin .eql (xr 11) (xi 5)) 34 (xtM 34 32 .done)) (.cond (xr 32) .skip (xQ (xt (.bin .eql (xr 11) (xi 6)) 35 (xtM 35 32 .done))))))) (.cond (xr 32) (xR (xtA 2 8 36 (xtA 3 5 37 (xt (.call 88 [xr 36, xr 37]) 38 (xS 4 38 8 .done)))) .ret) (.seq (xR (xt (.bin .eql (xr 11) (xi 7)) 40 (xtM 40 39 .done)) (.cond (xr 39) .skip (xR (xt (.bin .eql (xr 11) (xi 8)) 41 (xtM 41 39 .done)) (.cond (xr 39) .skip (xQ (xt (.bin .eql (xr 11) (xi 9)) 42 (xtM 42 39 .done))))))) (.cond (xr 39) (xR (xtA 2 8 43 (xtA 3 5 44 (xt (.call 89 [xr 43, xr 44]) 45 (xS 4 45 8 .done)))) .ret) (xR (xt (.bin .eql (xr 11) (xi 10)) 47 (xtM 47 46 .done)) (.cond (xr 46) (xR (xtF 2 7 48 (xtO 48 49 (xt (.bin .sub (xi 1) (xr 49)) 50 (xtF 2 7 51 (xS 51 50 1 .done))))) (xQ (xt (.bsl 56 2 0 [zB, zS] []) 52 (xt (.bsl 56 2 0 [zB, zS] []) 53 (xt (.bsl 50 1 2 [zS] [(0, (xr 52)), (1, (xr 53))]) 54 (xtF 2 6 55 (xS 55 54 1 .done))))))) (xR (xt (.bin .eql (xr 11) (xi 11)) 57 (xtM 57 56 .done)) (.cond (xr 56) (xR (xtF 2 6 58 (xtO 58 59 (xtF 3 1 60 (xtO 60 61 (xtI 59 61 1 62 (xtO 62 63 (xtL 63 64 (xt (.bin .lss (xr 64) (xi 30)) 65 (xtM 65 66 (xG (.fad (xr 3) 4) 67 66 true (xG (.ld (xr 67) 1 false) 68 66 true (xG (.len (xr 68)) 69 66 true (xG (.bin .leq (xr 69) (xi 15)) 70 66 true (xt (.pick (xr 66) (xr 70) (xb false)) 71 .done)))))))))))))) (.cond (xr 71) (.join [] (xpF 2 6 72 (xlO 72 73 (xpF 3 1 74 (xlO 74 75 (xpF 2 6 76 (xlO 76 77 (xpF 3 1 78 (xlO 78 79 (xpI 77 79 1 80 (xpF 3 4 83 (xlO 83 84 (.alt (xmO 80 81 (xm (.bsl 5 1 0 [(.int .u8 0)] []) 82 (xm (.app 22 (xr 82) (xr 84)) 85 (xp (.bld [zB, zS] [(1, (1, (xr 85)))]) 86 (xm (.bsl 56 2 1 [zB, zS] [(0, (xr 86))]) 87 (xm (.app 50 (xr 81) (xr 87)) 88 (xpI 73 75 1 89 (xS 89 88 1 .done)))))))) (xm (.bsl 5 1 0 [(.int .u8 0)] []) 82 (.alt (xmO 80 81 (xm (.app 22 (xr 82) (xr 84)) 85 (xp (.bld [zB, zS] [(1, (1, (xr 85)))]) 86 (xm (.bsl 56 2 1 [zB, zS] [(0, (xr 86))]) 87 (xm (.app 50 (xr 81) (xr 87)) 88 (xpI 73 75 1 89 (xS 89 88 1 .done))))))) (xm (.app 22 (xr 82) (xr 84)) 85 (xp (.bld [zB, zS] [(1, (1, (xr 85)))]) 86 (.alt (xmO 80 81 (xm (.bsl 56 2 1 [zB, zS] [(0, (xr 86))]) 87 (xm (.app 50 (xr 81) (xr 87)) 88 (xpI 73 75 1 89 (xS 89 88 1 .done))))) (xm (.bsl 56 2 1 [zB, zS] [(0, (xr 86))]) 87 (xmO 80 81 (xm (.app 50 (xr 81) (xr 87)) 88 (xpI 73 75 1 89 (xS 89 88 1 .done))))))))))))))))))))))) .skip)) .skip)))))))))))))))) (xR (xtA 2 8 90 (xS 4 90 8 .done)) .ret))))
theorem ic54_ok : Tryz.f54.body.bind (trC Tryz.prog [1000080]) = some ic54 := by kernel_rfl
def fr54 : List FR := [(FR.c 4 8 true)]
theorem fr54_ok : fres Tryz.prog Tryz.f54.results.toList = some fr54 := by kernel_rfl
set_option maxHeartbeats 1000000
theorem RdS.cell {z : Zc} {L : Ents} {A : Option Addr} {o : Nat} {u : Value} (k : Nat) {e sz n c : Nat} {cs : List Value} (hk : look k L = some (.own (rowA e sz (.slice A n c) n cs))) (h : cs[o]? = some u) : RdS z L A o [u] :=
  .inr ⟨k, e, sz, n, c, cs, hk, fun i v hv => by
    cases i with
    | zero => simp at hv; subst hv; exact h
    | succ i => simp at hv⟩
theorem atyMs : AppTy Tryz.prog 50 56 2 := AppTy.of (by kernel_rfl)
abbrev tyE : Nat := 49
abbrev tyN : Nat := 50
abbrev tyM : Nat := 56
abbrev tyS : Nat := 22
structure EndM where
  fA : Option Addr
  fC : Nat
  fV : List Value
  qA : Option Addr
  qC : Nat
  qV : List Value
  pA : Option Addr
  pC : Nat
  pV : List Value
  gA : Option Addr
  gC : Nat
  gV : List Value
  jA : Option Addr
  jC : Nat
  cA : Option Addr
  cC : Nat
  kA : Option Addr
  kC : Nat
def endC (e : End) (m : EndM) : List Value := [.int .i64 e.tx.next, .int .i64 e.tx.acked, .slice m.fA e.tx.flight.length m.fC, .int .i64 e.tx.sent, .slice m.qA e.tx.queue.length m.qC, .bool e.tx.asks, .int .i64 e.tx.tries, .bool e.tx.held, .int .i64 e.tx.count, .bool e.tx.dead,
  .int .i64 e.rx.expect, .int .i64 e.rx.count, .int .i64 e.rx.join.len, .slice m.jA e.rx.join.got.length m.jC, .bool e.rx.again, .bool e.rx.busy, .bool e.rx.dead,
  .int .i64 e.ctx.hav, .slice m.cA e.ctx.queue.length m.cC, .int .i64 e.ctx.granted, .int .i64 e.ctx.sent, .bool e.ctx.dead,
  .int .i64 e.crx.out, .int .i64 e.crx.join.len, .slice m.kA e.crx.join.got.length m.kC, .bool e.crx.dead, .slice m.pA e.put.length m.pC, .slice m.gA e.got.length m.gC]
def endsC (e0 e1 : End) (m0 m1 : EndM) : List Value := endC e0 m0 ++ endC e1 m1
structure EndR (z : Zc) (e : End) (m : EndM) : Prop where
  fl : Els pRep z e.tx.flight m.fV
  fc : e.tx.flight.length ≤ m.fC
  qu : Els pRep z e.tx.queue m.qV
  qc : e.tx.queue.length ≤ m.qC
  pu : Els sduRep z e.put m.pV
  pc : e.put.length ≤ m.pC
  go : Els sduRep z e.got m.gV
  gc : e.got.length ≤ m.gC
  jo : By z e.rx.join.got (.slice m.jA e.rx.join.got.length m.jC)
  cq : Sl pRep z e.ctx.queue (.slice m.cA e.ctx.queue.length m.cC)
  kj : By z e.crx.join.got (.slice m.kA e.crx.join.got.length m.kC)
theorem EndR.mono {z z' : Zc} {e : End} {m : EndM} (hz : z ≤ z') (h : EndR z e m) : EndR z' e m := ⟨h.fl.mono hz, h.fc, h.qu.mono hz, h.qc, h.pu.mono hz, h.pc, h.go.mono hz, h.gc, Sl.mono hz h.jo, h.cq.mono hz, Sl.mono hz h.kj⟩
structure NetM where
  A : Option Addr
  C : Nat
  ms : List (Option Addr × Nat)
def netV : List Msg → List (Option Addr × Nat) → List Value
  | m :: l, (a, c) :: ms => .bool m.bent :: .slice a m.bytes.length c :: netV l ms
  | _, _ => []
def netB : List Msg → List (Option Addr × Nat) → List Asrt
  | m :: l, (a, c) :: ms => bysA m.bytes a c :: netB l ms
  | _, _ => []
def netO : List Msg → List (Option Addr × Nat) → Prop
  | m :: l, (a, c) :: ms => (m.bytes.length ≤ c ∧ Bys m.bytes) ∧ netO l ms
  | [], [] => True
  | _, _ => False
structure NetR (l : List Msg) (n : NetM) : Prop where
  ok : netO l n.ms
  cap : l.length ≤ n.C
structure WM where
  E : Option Addr
  EC : Nat
  N : Option Addr
  NC : Nat
  m0 : EndM
  m1 : EndM
  n0 : NetM
  n1 : NetM
abbrev wldV (c : Cfg) (link : Int) (m : WM) : Value := .agg #[.int .i64 c.mode, .int .i64 c.win, .int .i64 c.mps, .int .i64 c.mtu, .int .i64 c.tri, .slice m.E 2 m.EC, .slice m.N 2 m.NC, .int .i64 link]
abbrev wldA (e0 e1 : End) (n0 n1 : List Msg) (m : WM) : Asrt := starL [rowA tyE 28 (.slice m.E 2 m.EC) 2 (endsC e0 e1 m.m0 m.m1), rowA tyN 1 (.slice m.N 2 m.NC) 2 [.slice m.n0.A n0.length m.n0.C, .slice m.n1.A n1.length m.n1.C],
  rowA tyP 3 (.slice m.m0.fA e0.tx.flight.length m.m0.fC) e0.tx.flight.length m.m0.fV, rowA tyP 3 (.slice m.m0.qA e0.tx.queue.length m.m0.qC) e0.tx.queue.length m.m0.qV, rowA tyS 1 (.slice m.m0.pA e0.put.length m.m0.pC) e0.put.length m.m0.pV, rowA tyS 1 (.slice m.m0.gA e0.got.length m.m0.gC) e0.got.length m.m0.gV,
  rowA tyP 3 (.slice m.m1.fA e1.tx.flight.length m.m1.fC) e1.tx.flight.length m.m1.fV, rowA tyP 3 (.slice m.m1.qA e1.tx.queue.length m.m1.qC) e1.tx.queue.length m.m1.qV, rowA tyS 1 (.slice m.m1.pA e1.put.length m.m1.pC) e1.put.length m.m1.pV, rowA tyS 1 (.slice m.m1.gA e1.got.length m.m1.gC) e1.got.length m.m1.gV,
  rowA tyM 2 (.slice m.n0.A n0.length m.n0.C) n0.length (netV n0 m.n0.ms), starL (netB n0 m.n0.ms), rowA tyM 2 (.slice m.n1.A n1.length m.n1.C) n1.length (netV n1 m.n1.ms), starL (netB n1 m.n1.ms)]
structure WldR (z : Zc) (e0 e1 : End) (n0 n1 : List Msg) (m : WM) : Prop where
  e0 : EndR z e0 m.m0
  e1 : EndR z e1 m.m1
  n0 : NetR n0 m.n0
  n1 : NetR n1 m.n1
def WldH (c : Cfg) (w : Wld) (u : Value) (z : Zc) (A : Asrt) : Prop := ∃ e0 e1 n0 n1 m, w.cfg = c ∧ w.ends = [e0, e1] ∧ w.net = [n0, n1] ∧ u = wldV c w.link m ∧ A = wldA e0 e1 n0 n1 m ∧ WldR z e0 e1 n0 n1 m
theorem netV_snoc (l : List Msg) (m : Msg) : ∀ (ms : List (Option Addr × Nat)) (a : Option Addr) (c : Nat), ms.length = l.length → netV (l ++ [m]) (ms ++ [(a, c)]) = netV l ms ++ [.bool m.bent, .slice a m.bytes.length c] := by
  induction l with
  | nil => intro ms a c h; obtain rfl := List.eq_nil_of_length_eq_zero h; rfl
  | cons x l ih =>
    intro ms a c h
    cases ms with
    | nil => simp at h
    | cons y ms => obtain ⟨b, k⟩ := y; simp only [List.cons_append, netV]; rw [ih ms a c (by simpa using h)]
theorem netB_snoc (l : List Msg) (m : Msg) : ∀ (ms : List (Option Addr × Nat)) (a : Option Addr) (c : Nat), ms.length = l.length → netB (l ++ [m]) (ms ++ [(a, c)]) = netB l ms ++ [bysA m.bytes a c] := by
  induction l with
  | nil => intro ms a c h; obtain rfl := List.eq_nil_of_length_eq_zero h; rfl
  | cons x l ih =>
    intro ms a c h
    cases ms with
    | nil => simp at h
    | cons y ms => obtain ⟨b, k⟩ := y; simp only [List.cons_append, netB]; rw [ih ms a c (by simpa using h)]
theorem netO.len : ∀ {l : List Msg} {ms : List (Option Addr × Nat)}, netO l ms → ms.length = l.length
  | [], [], _ => rfl
  | [], _ :: _, h => h.elim
  | _ :: _, [], h => h.elim
  | m :: l, (a, c) :: ms, h => by rw [List.length_cons, List.length_cons, netO.len h.2]
theorem netO.snoc : ∀ {l : List Msg} {ms : List (Option Addr × Nat)} {m : Msg} {a : Option Addr} {c : Nat}, netO l ms → m.bytes.length ≤ c → Bys m.bytes → netO (l ++ [m]) (ms ++ [(a, c)])
  | [], [], m, a, c, _, h1, h2 => ⟨⟨h1, h2⟩, trivial⟩
  | [], _ :: _, _, _, _, h, _, _ => h.elim
  | _ :: _, [], _, _, _, h, _, _ => h.elim
  | x :: l, (a', c') :: ms, m, a, c, h, h1, h2 => ⟨h.1, netO.snoc h.2 h1 h2⟩
theorem netV_len : ∀ {l : List Msg} {ms : List (Option Addr × Nat)}, netO l ms → (netV l ms).length = l.length * 2
  | [], [], _ => rfl
  | [], _ :: _, h => h.elim
  | _ :: _, [], h => h.elim
  | m :: l, (a, c) :: ms, h => by simp only [netV, List.length_cons]; rw [netV_len h.2]; omega
theorem starL_snoc {w : World} {A : Asrt} : ∀ {As : List Asrt} {F : Nat → Prop}, (starA (starL As) A).holds w F → (starL (As ++ [A])).holds w F
  | [], F, ⟨F1, F2, h1, h2, hd, hF⟩ => ⟨F2, F1, h2, h1, fun b k1 k2 => hd b k2 k1, fun b => (hF b).trans or_comm⟩
  | B :: As, F, ⟨F1, F2, ⟨G1, G2, g1, g2, gd, gF⟩, h2, hd, hF⟩ =>
    ⟨G1, fun b => G2 b ∨ F2 b, g1, starL_snoc ⟨G2, F2, g2, h2, fun b k1 k2 => hd b ((gF b).2 (.inr k1)) k2, fun b => Iff.rfl⟩, fun b k1 k2 => k2.elim (gd b k1) (hd b ((gF b).2 (.inl k1))), fun b => by rw [hF b, gF b, or_assoc]⟩
theorem starA_emp {w : World} {A : Asrt} {F : Nat → Prop} (h : (starA A emp).holds w F) : A.holds w F := by
  obtain ⟨F1, F2, h1, h2, hd, hF⟩ := h
  have : F = F1 := funext fun b => propext ((hF b).trans ⟨fun k => k.elim id fun k => absurd k (h2 b), .inl⟩)
  rw [this]; exact h1
theorem starL_push {w : World} {As : List Asrt} {B : Asrt} {F : Nat → Prop} (h : (starL [starL As, B]).holds w F) : (starL (As ++ [B])).holds w F := by
  obtain ⟨F1, F2, h1, h2, hd, hF⟩ := h
  exact starL_snoc ⟨F1, F2, h1, starA_emp h2, hd, hF⟩
theorem Tf.split {s : St} (k k1 : Nat) {A : Asrt} {As : List Asrt} (hk : look k s.L = some (.own (starL (A :: As)))) (hk' : look k (del k s.L) = none) (h1 : look k1 s.L = none) : Tf s ⟨s.t, (k1, .own A) :: (k, .own (starL As)) :: del k s.L, s.z, s.n⟩ :=
  Tf.mk' (fun {ρ w F} hh => by
    obtain ⟨F1, F2, ⟨G1, G2, g1, g2, gd, gF⟩, k2, kd, kF⟩ := hh.pick hk
    refine ⟨G1, fun b => G2 b ∨ F2 b, g1, ⟨G2, F2, g2, k2, fun b h => kd b ((gF b).2 (.inr h)), fun b => Iff.rfl⟩, fun b h h' => h'.elim (gd b h) (kd b ((gF b).2 (.inl h))), fun b => by rw [kF b, gF b, or_assoc]⟩) fun {j e cs} hj => by
    have e1 : ¬ k1 = j := fun e => by subst e; rw [h1] at hj; cases hj
    have e2 : ¬ k = j := fun e => by subst e; rw [hk] at hj; injection hj with hj; cases hj
    show (if k1 = j then _ else if k = j then _ else _) = _
    rw [if_neg e1, if_neg e2, look_del (fun e => e2 e.symm)]; exact hj
theorem frmBytes_pos {f : Frm} (h : frmOk f = true) : 0 < (frmBytes f).length := by rw [frmBytes_ok h, crcPut_length]; omega
theorem say1_y0 {c : Cfg} {es : List End} {n0 n1 : List Msg} {l : Int} {f : Frm} (h : n0.length < 30) : say1 ⟨c, es, [n0, n1], l⟩ 1 f = ⟨c, es, [n0 ++ [⟨false, frmBytes f⟩], n1], l⟩ := by unfold say1; rw [if_pos (by exact h)]; rfl
theorem say1_n0 {c : Cfg} {es : List End} {n0 n1 : List Msg} {l : Int} {f : Frm} (h : ¬ n0.length < 30) : say1 ⟨c, es, [n0, n1], l⟩ 1 f = ⟨c, es, [n0, n1], l⟩ := by unfold say1; rw [if_neg (by exact h)]
theorem say1_y1 {c : Cfg} {es : List End} {n0 n1 : List Msg} {l : Int} {f : Frm} (h : n1.length < 30) : say1 ⟨c, es, [n0, n1], l⟩ 0 f = ⟨c, es, [n0, n1 ++ [⟨false, frmBytes f⟩]], l⟩ := by unfold say1; rw [if_pos (by exact h)]; rfl
theorem say1_n1 {c : Cfg} {es : List End} {n0 n1 : List Msg} {l : Int} {f : Frm} (h : ¬ n1.length < 30) : say1 ⟨c, es, [n0, n1], l⟩ 0 f = ⟨c, es, [n0, n1], l⟩ := by unfold say1; rw [if_neg (by exact h)]
theorem NetR.snoc {l : List Msg} {n : NetM} {m : Msg} {A a : Option Addr} {C c : Nat} (h : NetR l n) (hc : l.length + 1 ≤ C) (h1 : m.bytes.length ≤ c) (h2 : Bys m.bytes) : NetR (l ++ [m]) ⟨A, C, n.ms ++ [(a, c)]⟩ := ⟨h.ok.snoc h1 h2, by simpa using hc⟩
theorem l9way0 (c : Cfg) (link : Int) (e0 e1 : End) (n0 n1 : List Msg) (m : WM) (f : Frm) (x : Value) (z : Zc) (hR : WldR z e0 e1 n0 n1 m) (h0 : n0.length ≤ 1000) (hf : frmOk f = true) (hx : By z f.data x) (hl : f.data.length ≤ 100000) :
    Spec Tryz.prog 119 [wldV c link m, .int .i64 0, vFrm f x] z (wldA e0 e1 n0 n1 m) (WldH c (say1 ⟨c, [e0, e1], [n0, n1], link⟩ 1 f)) := by
  obtain ⟨Ax, kx, rfl, hkx, hBx, hrx⟩ := hx.form
  have hpos := frmBytes_pos hf
  have hlen := hR.n0.ok.len
  have hvl := netV_len hR.n0.ok
  (refine spec_enterL [10, 11, 20, 21, 22, 23, 30, 31, 32, 33, 40, 41, 50, 51] Tryz.func119 ic119_ok fr119_ok Tryz.ntmps119 rfl ?_; simp only [seval, go_sem, ic119, fr119, zipL])
  refine vsI.atR 11 rfl fun hN => ?_
  have hN := hN (by omega)
  refine gO ?_
  refine tT ?_; refine callO 95 (frmBytesO f _ z hx hl) rfl rfl rfl ?_; rintro v z1 A' hz1 ⟨A5, c5, rfl, rfl, hc5⟩; refine gO ?_
  have hR1 : WldR z1 e0 e1 n0 n1 m := ⟨hR.e0.mono hz1, hR.e1.mono hz1, hR.n0, hR.n1⟩
  (with_reducible refine guardR.split (fun hg => ?_) (fun hg => ?_) <;> (try simp only [hg]) <;> simp only [seval, go_sem])
  · ((first | refine ⟨⟨by omega, hN⟩, ?_⟩ | refine ⟨hN, ?_⟩); (try simp only [seval, go_sem]))
    (refine ldF.one _ (RdS.cell 11 rfl rfl) ?_; refine gO ?_)
    (with_reducible refine condI.split (fun hg => ?_) (fun hg => ?_) <;> (try simp only [hg]) <;> (try simp only [seval, go_sem]))
    · have h30 : n0.length < 30 := by have := of_decide_eq_true hg; omega
      rw [say1_y0 h30]
      refine gO ?_
      (with_reducible refine joinV.id ?_; simp only [seval, go_sem])
      ((first | refine ⟨⟨by omega, hN⟩, ?_⟩ | refine ⟨hN, ?_⟩); (try simp only [seval, go_sem]))
      refine And.intro ?_ ?_
      all_goals (try simp only [seval, go_sem])
      all_goals (refine ldF.one _ (RdS.cell 11 rfl rfl) ?_; refine gO ?_)
      all_goals refine aT ?_; (refine appM_newF 40 atyMs rfl rfl rfl rfl rfl rfl rfl (by simp [Value.oneCell']) (by omega) (fun A6 c6 hc6 hat6 => ?_)); refine gO ?_
      all_goals ((first | refine ⟨⟨by omega, hN⟩, ?_⟩ | refine ⟨hN, ?_⟩); (try simp only [seval, go_sem]))
      all_goals (refine stoV_row 11 rfl rfl rfl rfl rfl rfl rfl (by simp) ?_; simp only [seval, go_sem, putV]; refine gO ?_)
      all_goals (refine FinV.pk 96 [41, 95] ?_); dsimp only
      all_goals refine FinV.tf (Tf.own 96 rfl rfl (fun w F h => starL_push h)) ?_
      all_goals dsimp only
      all_goals (refine FinV.pk 999 [10, 11, 20, 21, 22, 23, 30, 31, 32, 33, 40, 96, 50, 51] ?_); dsimp only
      all_goals refine fP ?_
      all_goals refine ⟨e0, e1, (n0 ++ [⟨false, frmBytes f⟩]), n1, { m with n0 := ⟨A6, c6, m.n0.ms ++ [(A5, c5)]⟩ }, rfl, rfl, rfl, rfl, ?_, ⟨hR1.e0, hR1.e1, hR1.n0.snoc hc6 hc5 (frmBytes_bys hf hBx), hR1.n1⟩⟩
      all_goals simp only [wldA, netV_snoc _ _ _ _ _ hlen, netB_snoc _ _ _ _ _ hlen, List.length_append, List.length_singleton]
    · have h30 : ¬ n0.length < 30 := by have := of_decide_eq_false hg; omega
      rw [say1_n0 h30]
      refine gO ?_
      refine wS ?_
      exact ⟨e0, e1, n0, n1, m, rfl, rfl, rfl, rfl, rfl, hR1⟩
  · exfalso
    have := of_decide_eq_false hg
    omega
theorem l9way1 (c : Cfg) (link : Int) (e0 e1 : End) (n0 n1 : List Msg) (m : WM) (f : Frm) (x : Value) (z : Zc) (hR : WldR z e0 e1 n0 n1 m) (h0 : n1.length ≤ 1000) (hf : frmOk f = true) (hx : By z f.data x) (hl : f.data.length ≤ 100000) :
    Spec Tryz.prog 119 [wldV c link m, .int .i64 1, vFrm f x] z (wldA e0 e1 n0 n1 m) (WldH c (say1 ⟨c, [e0, e1], [n0, n1], link⟩ 0 f)) := by
  obtain ⟨Ax, kx, rfl, hkx, hBx, hrx⟩ := hx.form
  have hpos := frmBytes_pos hf
  have hlen := hR.n1.ok.len
  have hvl := netV_len hR.n1.ok
  (refine spec_enterL [10, 11, 20, 21, 22, 23, 30, 31, 32, 33, 40, 41, 50, 51] Tryz.func119 ic119_ok fr119_ok Tryz.ntmps119 rfl ?_; simp only [seval, go_sem, ic119, fr119, zipL])
  refine vsI.atR 11 rfl fun hN => ?_
  have hN := hN (by omega)
  refine gO ?_
  refine tT ?_; refine callO 95 (frmBytesO f _ z hx hl) rfl rfl rfl ?_; rintro v z1 A' hz1 ⟨A5, c5, rfl, rfl, hc5⟩; refine gO ?_
  have hR1 : WldR z1 e0 e1 n0 n1 m := ⟨hR.e0.mono hz1, hR.e1.mono hz1, hR.n0, hR.n1⟩
  (with_reducible refine guardR.split (fun hg => ?_) (fun hg => ?_) <;> (try simp only [hg]) <;> simp only [seval, go_sem])
  · ((first | refine ⟨⟨by omega, hN⟩, ?_⟩ | refine ⟨hN, ?_⟩); (try simp only [seval, go_sem]))
    (refine ldF.one _ (RdS.cell 11 rfl rfl) ?_; refine gO ?_)
    (with_reducible refine condI.split (fun hg => ?_) (fun hg => ?_) <;> (try simp only [hg]) <;> (try simp only [seval, go_sem]))
    · have h30 : n1.length < 30 := by have := of_decide_eq_true hg; omega
      rw [say1_y1 h30]
      refine gO ?_
      (with_reducible refine joinV.id ?_; simp only [seval, go_sem])
      ((first | refine ⟨⟨by omega, hN⟩, ?_⟩ | refine ⟨hN, ?_⟩); (try simp only [seval, go_sem]))
      refine And.intro ?_ ?_
      all_goals (try simp only [seval, go_sem])
      all_goals (refine ldF.one _ (RdS.cell 11 rfl rfl) ?_; refine gO ?_)
      all_goals refine aT ?_; (refine appM_newF 50 atyMs rfl rfl rfl rfl rfl rfl rfl (by simp [Value.oneCell']) (by omega) (fun A6 c6 hc6 hat6 => ?_)); refine gO ?_
      all_goals ((first | refine ⟨⟨by omega, hN⟩, ?_⟩ | refine ⟨hN, ?_⟩); (try simp only [seval, go_sem]))
      all_goals (refine stoV_row 11 rfl rfl rfl rfl rfl rfl rfl (by simp) ?_; simp only [seval, go_sem, putV]; refine gO ?_)
      all_goals (refine FinV.pk 96 [51, 95] ?_); dsimp only
      all_goals refine FinV.tf (Tf.own 96 rfl rfl (fun w F h => starL_push h)) ?_
      all_goals dsimp only
      all_goals (refine FinV.pk 999 [10, 11, 20, 21, 22, 23, 30, 31, 32, 33, 40, 41, 50, 96] ?_); dsimp only
      all_goals refine fP ?_
      all_goals refine ⟨e0, e1, n0, (n1 ++ [⟨false, frmBytes f⟩]), { m with n1 := ⟨A6, c6, m.n1.ms ++ [(A5, c5)]⟩ }, rfl, rfl, rfl, rfl, ?_, ⟨hR1.e0, hR1.e1, hR1.n0, hR1.n1.snoc hc6 hc5 (frmBytes_bys hf hBx)⟩⟩
      all_goals simp only [wldA, netV_snoc _ _ _ _ _ hlen, netB_snoc _ _ _ _ _ hlen, List.length_append, List.length_singleton]
    · have h30 : ¬ n1.length < 30 := by have := of_decide_eq_false hg; omega
      rw [say1_n1 h30]
      refine gO ?_
      refine wS ?_
      exact ⟨e0, e1, n0, n1, m, rfl, rfl, rfl, rfl, rfl, hR1⟩
  · exfalso
    have := of_decide_eq_false hg
    omega
theorem endsC_len (e0 e1 : End) (m0 m1 : EndM) : (endsC e0 e1 m0 m1).length = 56 := rfl
theorem endC_len (e : End) (m : EndM) : (endC e m).length = 28 := rfl
theorem ends_get0 {e0 e1 : End} {m0 m1 : EndM} {i : Nat} {u : Value} (h : (endC e0 m0)[i]? = some u) : (endsC e0 e1 m0 m1)[0 + i]? = some u := by
  have hi : i < (endC e0 m0).length := (List.getElem?_eq_some_iff.1 h).1
  rw [Nat.zero_add, endsC, List.getElem?_append_left hi]; exact h
theorem ends_get1 {e0 e1 : End} {m0 m1 : EndM} {i : Nat} {u : Value} (h : (endC e1 m1)[i]? = some u) : (endsC e0 e1 m0 m1)[28 + i]? = some u := by
  rw [endsC, List.getElem?_append_right (by rw [endC_len]; omega), endC_len, Nat.add_sub_cancel_left]; exact h
theorem ends_tx0 (e0 e1 : End) (m0 m1 : EndM) (next acked sent tries count : Int) (asks held dead : Bool) (fl qu : List Part) (fA qA : Option Addr) (fC qC : Nat) : putV (endsC e0 e1 m0 m1) 0 [.int .i64 next, .int .i64 acked, .slice fA fl.length fC, .int .i64 sent, .slice qA qu.length qC, .bool asks, .int .i64 tries, .bool held, .int .i64 count, .bool dead] = endsC { e0 with tx := ⟨next, acked, fl, sent, qu, asks, tries, held, count, dead⟩ } e1 { m0 with fA := fA, fC := fC, qA := qA, qC := qC } m1 := rfl
theorem ends_tx1 (e0 e1 : End) (m0 m1 : EndM) (next acked sent tries count : Int) (asks held dead : Bool) (fl qu : List Part) (fA qA : Option Addr) (fC qC : Nat) : putV (endsC e0 e1 m0 m1) 28 [.int .i64 next, .int .i64 acked, .slice fA fl.length fC, .int .i64 sent, .slice qA qu.length qC, .bool asks, .int .i64 tries, .bool held, .int .i64 count, .bool dead] = endsC e0 { e1 with tx := ⟨next, acked, fl, sent, qu, asks, tries, held, count, dead⟩ } m0 { m1 with fA := fA, fC := fC, qA := qA, qC := qC } := rfl
theorem ends_rx0 (e0 e1 : End) (m0 m1 : EndM) (expect count len : Int) (again busy dead : Bool) (got : List Int) (jA : Option Addr) (jC : Nat) : putV (endsC e0 e1 m0 m1) 10 [.int .i64 expect, .int .i64 count, .int .i64 len, .slice jA got.length jC, .bool again, .bool busy, .bool dead] = endsC { e0 with rx := ⟨expect, count, ⟨len, got⟩, again, busy, dead⟩ } e1 { m0 with jA := jA, jC := jC } m1 := rfl
theorem ends_rx1 (e0 e1 : End) (m0 m1 : EndM) (expect count len : Int) (again busy dead : Bool) (got : List Int) (jA : Option Addr) (jC : Nat) : putV (endsC e0 e1 m0 m1) 38 [.int .i64 expect, .int .i64 count, .int .i64 len, .slice jA got.length jC, .bool again, .bool busy, .bool dead] = endsC e0 { e1 with rx := ⟨expect, count, ⟨len, got⟩, again, busy, dead⟩ } m0 { m1 with jA := jA, jC := jC } := rfl
theorem ends_put0 (e0 e1 : End) (m0 m1 : EndM) (l : List (List Int)) (n c : Nat) (A : Option Addr) (h : n = l.length) : putV (endsC e0 e1 m0 m1) 26 [.slice A n c] = endsC { e0 with put := l } e1 { m0 with pA := A, pC := c } m1 := by subst h; rfl
theorem ends_put1 (e0 e1 : End) (m0 m1 : EndM) (l : List (List Int)) (n c : Nat) (A : Option Addr) (h : n = l.length) : putV (endsC e0 e1 m0 m1) 54 [.slice A n c] = endsC e0 { e1 with put := l } m0 { m1 with pA := A, pC := c } := by subst h; rfl
theorem ends_got0 (e0 e1 : End) (m0 m1 : EndM) (l : List (List Int)) (n c : Nat) (A : Option Addr) (h : n = l.length) : putV (endsC e0 e1 m0 m1) 27 [.slice A n c] = endsC { e0 with got := l } e1 { m0 with gA := A, gC := c } m1 := by subst h; rfl
theorem ends_got1 (e0 e1 : End) (m0 m1 : EndM) (l : List (List Int)) (n c : Nat) (A : Option Addr) (h : n = l.length) : putV (endsC e0 e1 m0 m1) 55 [.slice A n c] = endsC e0 { e1 with got := l } m0 { m1 with gA := A, gC := c } := by subst h; rfl
def putM (c : Cfg) (x : End) (sdu : List Int) : End := if c.mode = 1 then { x with tx := (txPut c x.tx sdu).1, put := if (txPut c x.tx sdu).2 then x.put ++ [sdu] else x.put } else { x with ctx := (crdPut c x.ctx sdu).1, put := if (crdPut c x.ctx sdu).2 then x.put ++ [sdu] else x.put }
theorem wr10 : IntKind.i64.wrap 1 = 1 := rfl
theorem wr11 : IntKind.i64.wrap 0 = 0 := rfl
abbrev vEvt (e : Evt) (v : Value) : Value := .agg #[.int .i64 e.kind, .int .i64 e.who, .int .i64 e.at_, .int .i64 e.v, v]
end Go.Proofs.YtnkhjnieidlknaaGreat
