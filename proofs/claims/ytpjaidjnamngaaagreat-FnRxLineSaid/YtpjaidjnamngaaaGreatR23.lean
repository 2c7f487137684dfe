/- Numbers on a link that loses nothing: the law's walk. · The row of 'laws.FnRxLine': for each list of bytes the law returns true, and the list reads as it read before. Conditions: none beyond the row's own. -/
import Derived.Test.YtpjaidjnamngaaaGreatR4
import Derived.Test.YtpjaidjnamngaaaGreatR22
import Derived.Test.YtpjaidjnamngaaaGreatR16
import Derived.Test.YtpjaidjnamngaaaGreatR20
import Derived.Test.YtpjaidjnamngaaaGreatRows
import Derived.WalkKit
import Derived.ProofKit
import Derived.OpenShut
import Derived.ShutString
import Derived.ChangeOld
import Derived.Below
import Derived.SizedLaws
namespace Go.Proofs.YtpjaidjnamngaaaGreat
open Go.RowKit
set_option linter.unusedVariables false
set_option linter.unusedSimpArgs false
set_option maxRecDepth 100000
set_option maxHeartbeats 8000000
theorem drawPlay_s (code : List Int) (v : Value) (z : Zc) (h : By z code v) (hl : code.length ≤ 1000000000) : PSpec Tryz.prog 17 [v] z fun u z' => ∃ (c : Cfg) (evs : List Evt) (B : Option Addr) (k : Nat), u = .tuple #[vCfg c, .slice B evs.length k] ∧ Sl eRep z' evs (.slice B evs.length k) ∧ CfgI c ∧ c.mode = 1 ∧ (∀ e ∈ evs, EvD e ∧ e.kind ≤ 10) ∧ evs.length ≤ 140 := by
  obtain ⟨A0, c0, rfl, hc0, hB0, hr0⟩ := h.form
  (refine pspec_enter Tryz.func17 ic17_ok fr17_ok Tryz.ntmps17 ?_; simp only [seval, go_sem, ic17, fr17])
  ((try simp only [seval, go_sem]);repeat((with_reducible first|refine vJ ?_|refine vK ?_);try simp only [seval, go_sem]))
  (try with_reducible refine callM.toT ?_); refine callO 1000 (open_s code _ z h hl) rfl rfl rfl ?_; rintro u z1 A1 hz1 ⟨b, A, c, cd, rfl, rfl, hcd, hby⟩; ((try simp only [seval, go_sem]);repeat((with_reducible first|refine vJ ?_|refine vK ?_);try simp only [seval, go_sem]))
  (try with_reducible refine callM.toT ?_); refine callW 1000 (play_g 1 (.inl rfl) stepE_1 _ true false drawE_h b A c cd z1 hby hcd) rfl rfl rfl rfl ?_; rintro u z2 A2 hz2 ⟨cf, evs, B, k, link, m, e0, e1, n0, n1, rfl, rfl, hR, hW, hE, hc, hm, hev, hlen⟩; ((try simp only [seval, go_sem]);repeat((with_reducible first|refine vJ ?_|refine vK ?_);try simp only [seval, go_sem]))
  (((try simp only [seval, go_sem]);repeat((with_reducible first|refine vJ ?_|refine vK ?_);try simp only [seval, go_sem])); with_reducible refine FinV.of ?_; simp only [finE, finS, gt, look, SV.toV, SC.toV, allV, tupV, zq1, zq2, zq3, zq4, Nat.reduceAdd, Nat.reduceEqDiff, reduceCtorEq, if_true, if_false, reduceIte, Nat.succ_ne_self, true_and, zq5, zq7, zq8])
  exact ⟨cf, evs, B, k, rfl, hE, hc, hm (by omega), hev, hlen⟩
theorem HearV.out {z : Zc} {r : Rx} {sd : List (List Int)} {sy : List Frm} {v : Value} (h : HearV z (r, sd, sy) v) : ∃ A k B b cs D m d, v = .tuple #[vRx r (.slice A r.join.got.length k), .slice B sd.length b, .slice D m d] ∧ By z r.join.got (.slice A r.join.got.length k) ∧ sd.length ≤ b ∧ Els sduRep z sd cs ∧ RdAt z B 0 cs := by
  obtain ⟨A, k, B, n, b, D, m, d, h1, h2, ⟨B', b', cs, e, h3, h4, h5⟩, _⟩ := h
  injection e with e1 e2 e3
  subst e1 e2 e3
  exact ⟨A, k, B, b, cs, D, m, d, h1, h2, h3, h4, h5⟩
structure RxS where
  k : Nat
  t : Tx
  r : Rx
  put : List (List Int)
  got : List (List Int)
  pcs : List Value
  gcs : List Value
  pA : Option Addr
  pC : Nat
  gA : Option Addr
  gC : Nat
  fA : Option Addr
  fC : Nat
  qA : Option Addr
  qC : Nat
  jA : Option Addr
  jC : Nat
  z : Zc
structure RxM (z0 : Zc) (c : Cfg) (s : RxS) : Prop where
  z : z0 ≤ s.z
  I : RxL c s.t s.r s.put s.got
  pE : Els sduRep s.z s.put s.pcs
  gE : Els sduRep s.z s.got s.gcs
  pC : s.put.length ≤ s.pC
  gC : s.got.length ≤ s.gC
  f : Sl pRep s.z s.t.flight (.slice s.fA s.t.flight.length s.fC)
  q : Sl pRep s.z s.t.queue (.slice s.qA s.t.queue.length s.qC)
  j : By s.z s.r.join.got (.slice s.jA s.r.join.got.length s.jC)
abbrev txC (s : RxS) : List SC := [.v (.int .i64 s.t.next), .v (.int .i64 s.t.acked), .v (.slice s.fA s.t.flight.length s.fC), .v (.int .i64 s.t.sent), .v (.slice s.qA s.t.queue.length s.qC), .v (.bool s.t.asks), .v (.int .i64 s.t.tries), .v (.bool s.t.held), .v (.int .i64 s.t.count), .v (.bool s.t.dead)]
abbrev rxC (s : RxS) : List SC := [.v (.int .i64 s.r.expect), .v (.int .i64 s.r.count), .v (.int .i64 s.r.join.len), .v (.slice s.jA s.r.join.got.length s.jC), .v (.bool s.r.again), .v (.bool s.r.busy), .v (.bool s.r.dead)]
abbrev lnL (c : Cfg) (s : RxS) : Ents := [(90, .own (rowA tyS 1 (.slice s.pA s.put.length s.pC) s.put.length s.pcs)), (91, .own (rowA tyS 1 (.slice s.gA s.got.length s.gC) s.got.length s.gcs)), (0, .cells 24 (c5 c)), (1, .cells 55 (txC s)), (2, .cells 57 (rxC s))]
theorem rxLine_law (code : List Int) (v : Value) (z : Zc) (h : By z code v) : PSpec Tryz.prog 4 [v] z fun u z' => u = .bool true := by
  obtain ⟨A0, c0, rfl, hc0, hB0, hr0⟩ := h.form
  (refine pspec_enter Tryz.func4 ic4_ok fr4_ok Tryz.ntmps4 ?_; simp only [seval, go_sem, ic4, fr4])
  ((try simp only [seval, go_sem]);repeat((with_reducible first|refine vJ ?_|refine vK ?_);try simp only [seval, go_sem]))
  (with_reducible refine condI.split (fun hg => ?_) (fun hg => ?_) <;> (try simp only [hg]) <;> (try simp only [seval, go_sem]))
  · (((try simp only [seval, go_sem]);repeat((with_reducible first|refine vJ ?_|refine vK ?_);try simp only [seval, go_sem])); with_reducible refine FinV.of ?_; simp only [finE, finS, gt, look, SV.toV, SC.toV, allV, tupV, zq1, zq2, zq3, zq4, Nat.reduceAdd, Nat.reduceEqDiff, reduceCtorEq, if_true, if_false, reduceIte, Nat.succ_ne_self, true_and, zq5, zq7, zq8])
  have hlen : code.length ≤ 1048576 := by have := of_decide_eq_false hg; omega
  ((try simp only [seval, go_sem]);repeat((with_reducible first|refine vJ ?_|refine vK ?_);try simp only [seval, go_sem]))
  (try with_reducible refine callM.toT ?_); refine callP (drawPlay_s code _ z h (by omega)) rfl rfl ?_; rintro u z1 hz1 ⟨c, evs, B, kB, rfl, hE, hc, hm, hev, hel⟩; ((try simp only [seval, go_sem]);repeat((with_reducible first|refine vJ ?_|refine vK ?_);try simp only [seval, go_sem]))
  refine loopV.toRow 90 3 rfl rfl (m := 0) (sz := 1) rfl (by omega) (fun b0 => ?_)
  simp only [seval, go_sem, rowSt, subV, subC, subE, subL]
  refine loopV.toRow 91 4 rfl rfl (m := 0) (sz := 1) rfl (by omega) (fun b1 => ?_)
  simp only [seval, go_sem, rowSt, subV, subC, subE, subL]
  obtain ⟨cs, hEe, hEr⟩ := Els.one1 hE
  refine loop_upd (ι := RxS) (n := 5) (fun s => RxM z1 c s ∧ s.k ≤ evs.length ∧ s.put.length ≤ s.k) (fun s => [(9, .c (.v (.int .i64 s.k))), (7, .c (.v (.slice s.pA s.put.length s.pC))), (8, .c (.v (.slice s.gA s.got.length s.gC)))])
    (fun s => lnL c s)
    (fun s => s.z) (fun s => evs.length - s.k) ⟨0, tx0, rx0, [], [], [], [], some ⟨b0, 0, none⟩, 0, some ⟨b1, 0, none⟩, 0, none, 0, none, 0, none, 0, z1⟩ ⟨⟨Zc.rfl' _, RxL.start hc, rfl, rfl, Nat.le_refl _, Nat.le_refl _, Sl.nil _ _ _, Sl.nil _ _ _, Sl.nil _ _ _⟩, by simp, by simp⟩ (by (simp only [wrI, wrR, anyL, st, List.append_nil, List.nil_append, List.cons_append]); exact rfl) ?_ ?_
  · simp only [List.length_nil]
    (refine Le.of ?_ ?_ rfl ?_ ⟨rfl, rfl⟩; rotate_left; (repeat (first | exact trivial | refine ⟨rfl, ?_⟩)); (first | exact Nat.le_refl _ | decide | (dsimp only; omega)); (simp (disch := omega) only [LeT, updL, st, reduceCtorEq, true_or, or_true, false_or, and_true, true_and, SV.c.injEq, SC.v.injEq, Value.int.injEq, Value.slice.injEq, wrap_in, Int.natCast_add, Int.natCast_one, Int.natCast_zero, Int.cast_ofNat_Int]) <;> (try (repeat' constructor)) <;> (first | rfl | omega))
  · rintro ⟨k, t, r, put, got, pcs, gcs, pA, pC, gA, gC, fA, fC, qA, qC, jA, jC, y⟩ ⟨⟨hy, hI, hpE, hgE, hpC, hgC, hf, hq, hj⟩, hk, hpk⟩
    dsimp only at *
    ((try simp only [seval, go_sem]);repeat((with_reducible first|refine vJ ?_|refine vK ?_);try simp only [seval, go_sem]))
    (with_reducible refine condI.split (fun hg => ?_) (fun hg => ?_) <;> (try simp only [hg]) <;> (try simp only [seval, go_sem]))
    · have hk' : k < evs.length := by have := of_decide_eq_true hg; omega
      obtain ⟨x, hx⟩ : ∃ x, evs[k]? = some x := ⟨_, List.getElem?_eq_getElem hk'⟩
      obtain ⟨_, ⟨s1, rfl, hs1⟩, hra⟩ := (hEe.mono hy).at (hEr.mono hy) hx
      obtain ⟨sA, sC, rfl, hsC, hsB, hsr⟩ := hs1.form
      have hsd := (hev x (List.mem_of_getElem? hx)).1.2.2
      ((try simp only [seval, go_sem]);repeat((with_reducible first|refine vJ ?_|refine vK ?_);try simp only [seval, go_sem]))
      (refine ⟨⟨by omega, by omega, (hEe.mono hy).isAt (hEr.mono hy) (by decide) hk'⟩, ?_⟩; (try simp only [seval, go_sem]))
      (refine ldF.one _ (by first | exact .inl (hra.cell 0 rfl) | exact (hra.cell 0 rfl)) ?_; (try simp only [seval, go_sem]))
      ((try simp only [seval, go_sem]);repeat((with_reducible first|refine vJ ?_|refine vK ?_);try simp only [seval, go_sem]))
      (with_reducible refine condI.split (fun hg => ?_) (fun hg => ?_) <;> (try simp only [hg]) <;> (try simp only [seval, go_sem]))
      · ((try simp only [seval, go_sem]);repeat((with_reducible first|refine vJ ?_|refine vK ?_);try simp only [seval, go_sem]))
        refine ⟨⟨k + 1, t, r, put, got, pcs, gcs, pA, pC, gA, gC, fA, fC, qA, qC, jA, jC, y⟩, ⟨⟨hy, hI, hpE, hgE, hpC, hgC, hf, hq, hj⟩, by dsimp only; omega, by dsimp only; omega⟩, by dsimp only; omega, ?_⟩
        (refine Le.of ?_ ?_ rfl ?_ ⟨rfl, rfl⟩; rotate_left; (simp only [LeL, look, del, Nat.reduceEqDiff, reduceCtorEq, if_true, if_false, reduceIte, Nat.succ_ne_self, and_true, true_and, and_self]); (first | exact Nat.le_refl _ | decide | (dsimp only; omega)); (simp (disch := omega) only [LeT, updL, st, reduceCtorEq, true_or, or_true, false_or, and_true, true_and, SV.c.injEq, SC.v.injEq, Value.int.injEq, Value.slice.injEq, wrap_in, Int.natCast_add, Int.natCast_one, Int.natCast_zero, Int.cast_ofNat_Int]) <;> (try (repeat' constructor)) <;> (first | rfl | omega))
      · ((try simp only [seval, go_sem]);repeat((with_reducible first|refine vJ ?_|refine vK ?_);try simp only [seval, go_sem]))
        refine joinV.le (ι := Option Addr × Nat × Option Addr × Nat × Zc) (fun i => y ≤ i.2.2.2.2 ∧ Sl pRep i.2.2.2.2 (txPut c t x.data).1.flight (.slice i.1 (txPut c t x.data).1.flight.length i.2.1) ∧ Sl pRep i.2.2.2.2 (txPut c t x.data).1.queue (.slice i.2.2.1 (txPut c t x.data).1.queue.length i.2.2.2.1)) [51, 52, 53, 54, 55, 56, 57, 58, 50, 59, 60, 10, 11] (fun i => [(10, .c (.p 5 0)), (11, .c (.v (.bool (txPut c t x.data).2)))])
          (fun i => [(90, .own (rowA tyS 1 (.slice pA put.length pC) put.length pcs)), (91, .own (rowA tyS 1 (.slice gA got.length gC) got.length gcs)), (0, .cells 24 (c5 c)), (1, .cells 55 (txC ⟨0, t, r, put, got, pcs, gcs, pA, pC, gA, gC, fA, fC, qA, qC, jA, jC, y⟩)), (2, .cells 57 (rxC ⟨0, t, r, put, got, pcs, gcs, pA, pC, gA, gC, fA, fC, qA, qC, jA, jC, y⟩)), (5, .cells 55 (txC ⟨0, (txPut c t x.data).1, r, put, got, pcs, gcs, pA, pC, gA, gC, i.1, i.2.1, i.2.2.1, i.2.2.2.1, jA, jC, y⟩))]) (fun i => i.2.2.2.2) 6 (by simp only [anyL, st]; exact rfl) ?_ ?_
        · simp only [seval, go_sem]
          (refine ⟨⟨by omega, by omega, (hEe.mono hy).isAt (hEr.mono hy) (by decide) hk'⟩, ?_⟩; (try simp only [seval, go_sem]))
          (refine ldF.one _ (by first | exact .inl (hra.cell 4 rfl) | exact (hra.cell 4 rfl)) ?_; (try simp only [seval, go_sem]))
          refine ⟨?_, ?_⟩
          all_goals
            (try with_reducible refine callM.toT ?_); refine callP (txput_i c t x.data (.slice fA t.flight.length fC) (.slice qA t.queue.length qC) (.slice sA x.data.length sC) y hI.tx hf hq hs1 (by omega)) rfl rfl ?_; rintro u z2 hz2 ⟨A2, k2, A3, k3, rfl, hf2, hq2⟩; ((try simp only [seval, go_sem]);repeat((with_reducible first|refine vJ ?_|refine vK ?_);try simp only [seval, go_sem]))
          all_goals refine ⟨(A2, k2, A3, k3, z2), ⟨hz2, hf2, hq2⟩, ?_⟩
          all_goals (refine Le.of ?_ ?_ rfl ?_ ⟨rfl, rfl⟩; rotate_left; (simp only [LeL, look, del, Nat.reduceEqDiff, reduceCtorEq, if_true, if_false, reduceIte, Nat.succ_ne_self, and_true, true_and, and_self]); (first | exact Nat.le_refl _ | decide | (dsimp only; omega)); (simp (disch := omega) only [LeT, updL, st, reduceCtorEq, true_or, or_true, false_or, and_true, true_and, SV.c.injEq, SC.v.injEq, Value.int.injEq, Value.slice.injEq, wrap_in, Int.natCast_add, Int.natCast_one, Int.natCast_zero, Int.cast_ofNat_Int]) <;> (try (repeat' constructor)) <;> (first | rfl | omega))
        · rintro ⟨A2, k2, A3, k3, z2⟩ ⟨hz2, hf2, hq2⟩
          dsimp only at *
          have hI' := hI.put (by omega) x.data
          generalize txPut c t x.data = tp at *
          obtain ⟨t', ok⟩ := tp
          dsimp only at *
          have w5 : IntKind.i64.wrap (1 + (code.length : Int).tmod 5) = ((1 + code.length % 5 : Nat) : Int) := by rw [Int.tmod_eq_emod_of_nonneg (by omega), wrap_in (by omega) (by omega)]; omega
          cases ok
          case' false =>
            simp only [seval, go_sem]
            ((try simp only [seval, go_sem]);repeat((with_reducible first|refine vJ ?_|refine vK ?_);try simp only [seval, go_sem]))
            simp only [Bool.false_eq_true, if_false] at hI'
            have hPE := hpE.mono hz2
            have hPk : put.length ≤ k + 1 := by omega
            have hc6 := hpC
            obtain ⟨P, rfl⟩ : ∃ P, P = put := ⟨_, rfl⟩
            obtain ⟨PCS, rfl⟩ : ∃ P, P = pcs := ⟨_, rfl⟩
            obtain ⟨A6, rfl⟩ : ∃ P, P = pA := ⟨_, rfl⟩
            obtain ⟨c6, rfl⟩ : ∃ P, P = pC := ⟨_, rfl⟩
          case' true =>
            simp only [seval, go_sem]
            ((try simp only [seval, go_sem]);repeat((with_reducible first|refine vJ ?_|refine vK ?_);try simp only [seval, go_sem]))
            (refine ⟨⟨by omega, by omega, (hEe.mono (Zc.trans' hy hz2)).isAt (hEr.mono (Zc.trans' hy hz2)) (by decide) hk'⟩, ?_⟩; (try simp only [seval, go_sem]))
            (refine ldF.one _ (by first | exact .inl ((hra.mono hz2).cell 4 rfl) | exact ((hra.mono hz2).cell 4 rfl)) ?_; (try simp only [seval, go_sem]))
            ((try simp only [seval, go_sem]);repeat((with_reducible first|refine vJ ?_|refine vK ?_);try simp only [seval, go_sem]))
            (try with_reducible refine appM.toT ?_); (refine appM_newF 90 atyS rfl rfl rfl rfl rfl rfl rfl (by simp [Value.oneCell']) (by omega) (fun A6 c6 hc6 hat6 => ?_)); ((try simp only [seval, go_sem]);repeat((with_reducible first|refine vJ ?_|refine vK ?_);try simp only [seval, go_sem]))
            simp only [if_true] at hI'
            have hPE : Els sduRep z2 (put ++ [x.data]) (pcs ++ [.slice sA x.data.length sC]) := Els.append (hpE.mono hz2) (Els.single ⟨_, rfl, hs1.mono hz2⟩)
            have hPl : (put ++ [x.data]).length = put.length + 1 := by simp
            rw [← hPl] at hc6
            have hPk : (put ++ [x.data]).length ≤ k + 1 := by omega
            simp only [← hPl]
            generalize put ++ [x.data] = P at *
            generalize pcs ++ [Value.slice sA x.data.length sC] = PCS at *
          all_goals refine loopV.forget [10, 69] (lnL c ⟨0, t', r, P, got, PCS, gcs, A6, c6, gA, gC, A2, k2, A3, k3, jA, jC, z2⟩) 5 (by simp only [anyL, st]; exact rfl) (by (refine Le.of ?_ ?_ rfl ?_ ⟨rfl, rfl⟩; rotate_left; (repeat (first | exact trivial | refine ⟨rfl, ?_⟩)); (first | exact Nat.le_refl _ | decide | (dsimp only; omega)); (simp (disch := omega) only [LeT, updL, st, reduceCtorEq, true_or, or_true, false_or, and_true, true_and, SV.c.injEq, SC.v.injEq, Value.int.injEq, Value.slice.injEq, wrap_in, Int.natCast_add, Int.natCast_one, Int.natCast_zero, Int.cast_ofNat_Int]) <;> (try (repeat' constructor)) <;> (first | rfl | omega))) ?_
          all_goals
            refine loop_upd (ι := RxS) (n := 5) (fun s => RxM z2 c s ∧ s.k ≤ 1 + code.length % 5 ∧ s.put.length ≤ k + 1) (fun s => [(12, .c (.v (.int .i64 s.k))), (7, .c (.v (.slice s.pA s.put.length s.pC))), (8, .c (.v (.slice s.gA s.got.length s.gC)))])
              (fun s => lnL c s) (fun s => s.z) (fun s => 10 - s.k) ⟨0, t', r, P, got, PCS, gcs, A6, c6, gA, gC, A2, k2, A3, k3, jA, jC, z2⟩ ⟨⟨Zc.rfl' _, hI', hPE, hgE.mono hz2, hc6, hgC, hf2, hq2, hj.mono hz2⟩, by dsimp only; omega, hPk⟩ (by (simp only [wrI, wrR, anyL, st, List.append_nil, List.nil_append, List.cons_append]); exact rfl) ?_ ?_
            · (refine Le.of ?_ ?_ rfl ?_ ⟨rfl, rfl⟩; rotate_left; (repeat (first | exact trivial | refine ⟨rfl, ?_⟩)); (first | exact Nat.le_refl _ | decide | (dsimp only; omega)); (simp (disch := omega) only [LeT, updL, st, reduceCtorEq, true_or, or_true, false_or, and_true, true_and, SV.c.injEq, SC.v.injEq, Value.int.injEq, Value.slice.injEq, wrap_in, Int.natCast_add, Int.natCast_one, Int.natCast_zero, Int.cast_ofNat_Int]) <;> (try (repeat' constructor)) <;> (first | rfl | omega))
            · clear hI' hPE hc6 hPk hf2 hq2 hgE hgC hj hf hq hpE hpC hI hpk
              rintro ⟨n, t, r, P, got, PCS, gcs, A6, c6, gA, gC, fA, fC, qA, qC, jA, jC, w⟩ ⟨⟨hw, hI, hPE, hgE, hc6, hgC, hf, hq, hj⟩, hn, hPk⟩
              dsimp only at *
              have hgl := hI.got
              ((try simp only [seval, go_sem]);repeat((with_reducible first|refine vJ ?_|refine vK ?_);try simp only [seval, go_sem]))
              try simp only [w5]
              (with_reducible refine condI.split (fun hg => ?_) (fun hg => ?_) <;> (try simp only [hg]) <;> (try simp only [seval, go_sem]))
              · have hnb : n < 1 + code.length % 5 := by have := of_decide_eq_true hg; omega
                ((try simp only [seval, go_sem]);repeat((with_reducible first|refine vJ ?_|refine vK ?_);try simp only [seval, go_sem]))
                have hcs := txsend_i c t 0 (.slice fA t.flight.length fC) (.slice qA t.queue.length qC) w hI.tx (hI.low (by omega)) hf hq (by omega)
                by_cases hqe : t.queue = []
                · rw [hI.stop hqe] at hcs
                  simp only [Option.getD_none, Option.isSome_none] at hcs
                  (try with_reducible refine callM.toT ?_); refine callP (hcs) rfl rfl ?_; rintro u w3 hw3 ⟨xA, xC, fA2, fC2, qA2, qC2, rfl, hf3, hq3, hx3⟩; ((try simp only [seval, go_sem]);repeat((with_reducible first|refine vJ ?_|refine vK ?_);try simp only [seval, go_sem]))
                  refine ⟨⟨n + 1, t, r, P, got, PCS, gcs, A6, c6, gA, gC, fA2, fC2, qA2, qC2, jA, jC, w3⟩, ⟨⟨Zc.trans' hw hw3, hI, hPE.mono hw3, hgE.mono hw3, hc6, hgC, hf3, hq3, hj.mono hw3⟩, by dsimp only; omega, hPk⟩, by dsimp only; omega, ?_⟩
                  (refine Le.of ?_ ?_ rfl ?_ ⟨rfl, rfl⟩; rotate_left; (simp only [LeL, look, del, Nat.reduceEqDiff, reduceCtorEq, if_true, if_false, reduceIte, Nat.succ_ne_self, and_true, true_and, and_self]); (first | exact Nat.le_refl _ | decide | (dsimp only; omega)); (simp (disch := omega) only [LeT, updL, st, reduceCtorEq, true_or, or_true, false_or, and_true, true_and, SV.c.injEq, SC.v.injEq, Value.int.injEq, Value.slice.injEq, wrap_in, Int.natCast_add, Int.natCast_one, Int.natCast_zero, Int.cast_ofNat_Int]) <;> (try (repeat' constructor)) <;> (first | rfl | omega))
                · obtain ⟨p, q, hpq⟩ := List.exists_cons_of_ne_nil hqe
                  obtain ⟨t1, f, r2, sd, t2, g1, g2, g3, hI1, hfo, hfk, hf8, hIr, hI2, hqq, hsd⟩ := hI.send (by omega) hpq
                  rw [g1] at hcs
                  simp only [Option.getD_some, Option.isSome_some] at hcs
                  (try with_reducible refine callM.toT ?_); refine callP (hcs) rfl rfl ?_; rintro u w3 hw3 ⟨xA, xC, fA2, fC2, qA2, qC2, rfl, hf3, hq3, hx3⟩; ((try simp only [seval, go_sem]);repeat((with_reducible first|refine vJ ?_|refine vK ?_);try simp only [seval, go_sem]))
                  have hch := rxhear_i c r f (.slice jA r.join.got.length jC) (.slice xA f.data.length xC) w3 hc (hj.mono hw3) hx3 hI.rx hfo (.inl hfk)
                  rw [g2] at hch
                  (try with_reducible refine callM.toT ?_); refine callP (hch.mono fun _ _ _ h => h.out) rfl rfl ?_; rintro u w4 hw4 ⟨jA2, jC2, sA2, sC2, scs2, dA2, dN2, dC2, rfl, hj4, hsc2, hse2, hsr2⟩; ((try simp only [seval, go_sem]);repeat((with_reducible first|refine vJ ?_|refine vK ?_);try simp only [seval, go_sem]))
                  have hsl : scs2.length = sd.length * 1 := hse2.length
                  (try with_reducible refine appM.toT ?_); (refine appM_rowF 91 atyS rfl rfl rfl rfl hsr2 (by first | omega | simp) (hse2.one) (by omega) (fun A9 c9 hc9 => ?_)); ((try simp only [seval, go_sem]);repeat((with_reducible first|refine vJ ?_|refine vK ?_);try simp only [seval, go_sem]))
                  (try with_reducible refine callM.toT ?_); refine callP (rxack_i r2 _ w4 hIr hj4) rfl rfl ?_; rintro _ _ - ⟨rfl, rfl⟩; ((try simp only [seval, go_sem]);repeat((with_reducible first|refine vJ ?_|refine vK ?_);try simp only [seval, go_sem]))
                  have hct := txhear_i c t1 (rxAck r2) (.slice fA2 t1.flight.length fC2) (.slice qA2 t1.queue.length qC2) (.slice none 0 0) w4 hI1 (hf3.mono hw4) (hq3.mono hw4) (Sl.nil _ _ _) (sayFrm_ok hIr.expect rfl (goWait_02 _)) (.inr rfl)
                  rw [g3] at hct
                  (try with_reducible refine callM.toT ?_); refine callP (hct) rfl rfl ?_; rintro u w5' hw5 ⟨fA3, fC3, qA3, qC3, rfl, hf5, hq5⟩; ((try simp only [seval, go_sem]);repeat((with_reducible first|refine vJ ?_|refine vK ?_);try simp only [seval, go_sem]))
                  have hww : w ≤ w5' := Zc.trans' hw3 (Zc.trans' hw4 hw5)
                  refine ⟨⟨n + 1, t2, r2, P, got ++ sd, PCS, gcs ++ scs2, A6, c6, A9, c9, fA3, fC3, qA3, qC3, jA2, jC2, w5'⟩, ⟨⟨Zc.trans' hw hww, hI2, hPE.mono hww, Els.append (hgE.mono hww) (hse2.mono hw5), hc6, by rw [List.length_append]; exact hc9, hf5, hq5, hj4.mono hw5⟩, by dsimp only; omega, hPk⟩, by dsimp only; omega, ?_⟩
                  simp only [lnL, txC, rxC, List.length_append]
                  (refine Le.of ?_ ?_ rfl ?_ ⟨rfl, rfl⟩; rotate_left; (simp only [LeL, look, del, Nat.reduceEqDiff, reduceCtorEq, if_true, if_false, reduceIte, Nat.succ_ne_self, and_true, true_and, and_self]); (first | exact Nat.le_refl _ | decide | (dsimp only; omega)); (simp (disch := omega) only [LeT, updL, st, reduceCtorEq, true_or, or_true, false_or, and_true, true_and, SV.c.injEq, SC.v.injEq, Value.int.injEq, Value.slice.injEq, wrap_in, Int.natCast_add, Int.natCast_one, Int.natCast_zero, Int.cast_ofNat_Int]) <;> (try (repeat' constructor)) <;> (first | rfl | omega))
              · ((try simp only [seval, go_sem]);repeat((with_reducible first|refine vJ ?_|refine vK ?_);try simp only [seval, go_sem]))
                refine ⟨⟨k + 1, t, r, P, got, PCS, gcs, A6, c6, gA, gC, fA, fC, qA, qC, jA, jC, w⟩, ⟨⟨Zc.trans' hy (Zc.trans' hz2 hw), hI, hPE, hgE, hc6, hgC, hf, hq, hj⟩, by first | omega | (dsimp only; omega), hPk⟩, by first | omega | (dsimp only; omega), ?_⟩
                (refine Le.of ?_ ?_ rfl ?_ ⟨rfl, rfl⟩; rotate_left; (simp only [LeL, look, del, Nat.reduceEqDiff, reduceCtorEq, if_true, if_false, reduceIte, Nat.succ_ne_self, and_true, true_and, and_self]); (first | exact Nat.le_refl _ | decide | (dsimp only; omega)); (simp (disch := omega) only [LeT, updL, st, reduceCtorEq, true_or, or_true, false_or, and_true, true_and, SV.c.injEq, SC.v.injEq, Value.int.injEq, Value.slice.injEq, wrap_in, Int.natCast_add, Int.natCast_one, Int.natCast_zero, Int.cast_ofNat_Int]) <;> (try (repeat' constructor)) <;> (first | rfl | omega))
    · have hk0 : k = evs.length := by have := of_decide_eq_false hg; omega
      ((try simp only [seval, go_sem]);repeat((with_reducible first|refine vJ ?_|refine vK ?_);try simp only [seval, go_sem]))
      have hsum := hI.sum
      have hqm := hI.tx.queue
      refine loop_upd (ι := RxS) (n := 5) (fun s => RxM y c s ∧ s.k + s.t.queue.length ≤ 24 ∧ s.put.length ≤ 140) (fun s => [(19, .c (.v (.int .i64 s.k))), (7, .c (.v (.slice s.pA s.put.length s.pC))), (8, .c (.v (.slice s.gA s.got.length s.gC)))])
        (fun s => lnL c s) (fun s => s.z) (fun s => 24 - s.k) ⟨0, t, r, put, got, pcs, gcs, pA, pC, gA, gC, fA, fC, qA, qC, jA, jC, y⟩ ⟨⟨Zc.rfl' _, hI, hpE, hgE, hpC, hgC, hf, hq, hj⟩, by dsimp only; omega, by dsimp only; omega⟩ (by (simp only [wrI, wrR, anyL, st, List.append_nil, List.nil_append, List.cons_append]); exact rfl) ?_ ?_
      · (refine Le.of ?_ ?_ rfl ?_ ⟨rfl, rfl⟩; rotate_left; (repeat (first | exact trivial | refine ⟨rfl, ?_⟩)); (first | exact Nat.le_refl _ | decide | (dsimp only; omega)); (simp (disch := omega) only [LeT, updL, st, reduceCtorEq, true_or, or_true, false_or, and_true, true_and, SV.c.injEq, SC.v.injEq, Value.int.injEq, Value.slice.injEq, wrap_in, Int.natCast_add, Int.natCast_one, Int.natCast_zero, Int.cast_ofNat_Int]) <;> (try (repeat' constructor)) <;> (first | rfl | omega))
      · clear hI hpE hgE hpC hgC hf hq hj hpk hsum hqm
        rintro ⟨n, t, r, put, got, pcs, gcs, pA, pC, gA, gC, fA, fC, qA, qC, jA, jC, w⟩ ⟨⟨hw, hI, hpE, hgE, hpC, hgC, hf, hq, hj⟩, hn, hpk⟩
        dsimp only at *
        have hn200 : decide ((n : Int) < 200) = true := decide_eq_true (by omega)
        have hgl := hI.got
        have hfl : t.flight.length = 0 := by rw [hI.fl]; rfl
        have hlf : txLeft t = (t.queue.length : Int) := by unfold txLeft; rw [hfl]; omega
        ((try simp only [seval, go_sem]);repeat((with_reducible first|refine vJ ?_|refine vK ?_);try simp only [seval, go_sem]))
        try simp only [hn200]
        ((try simp only [seval, go_sem]);repeat((with_reducible first|refine vJ ?_|refine vK ?_);try simp only [seval, go_sem]))
        (try with_reducible refine callM.toT ?_); refine callP (txleft_i t fA qA fC qC w (by omega) (by omega)) rfl rfl ?_; rintro _ _ - ⟨rfl, rfl⟩; ((try simp only [seval, go_sem]);repeat((with_reducible first|refine vJ ?_|refine vK ?_);try simp only [seval, go_sem]))
        try simp only [hlf]
        (with_reducible refine condI.split (fun hg => ?_) (fun hg => ?_) <;> (try simp only [hg]) <;> (try simp only [seval, go_sem]))
        · have hq1 : 0 < t.queue.length := by have := of_decide_eq_true hg; omega
          obtain ⟨p, q, hpq⟩ := List.exists_cons_of_length_pos hq1
          have hql : t.queue.length = q.length + 1 := by rw [hpq]; rfl
          obtain ⟨t1, f, r2, sd, t2, g1, g2, g3, hI1, hfo, hfk, hf8, hIr, hI2, hqq, hsd⟩ := hI.send hpk hpq
          have hcs := txsend_i c t 0 (.slice fA t.flight.length fC) (.slice qA t.queue.length qC) w hI.tx (hI.low hpk) hf hq (by omega)
          rw [g1] at hcs
          simp only [Option.getD_some, Option.isSome_some] at hcs
          ((try simp only [seval, go_sem]);repeat((with_reducible first|refine vJ ?_|refine vK ?_);try simp only [seval, go_sem]))
          (try with_reducible refine callM.toT ?_); refine callP (hcs) rfl rfl ?_; rintro u w3 hw3 ⟨xA, xC, fA2, fC2, qA2, qC2, rfl, hf3, hq3, hx3⟩; ((try simp only [seval, go_sem]);repeat((with_reducible first|refine vJ ?_|refine vK ?_);try simp only [seval, go_sem]))
          have hch := rxhear_i c r f (.slice jA r.join.got.length jC) (.slice xA f.data.length xC) w3 hc (hj.mono hw3) hx3 hI.rx hfo (.inl hfk)
          rw [g2] at hch
          (try with_reducible refine callM.toT ?_); refine callP (hch.mono fun _ _ _ h => h.out) rfl rfl ?_; rintro u w4 hw4 ⟨jA2, jC2, sA2, sC2, scs2, dA2, dN2, dC2, rfl, hj4, hsc2, hse2, hsr2⟩; ((try simp only [seval, go_sem]);repeat((with_reducible first|refine vJ ?_|refine vK ?_);try simp only [seval, go_sem]))
          have hsl : scs2.length = sd.length * 1 := hse2.length
          (try with_reducible refine callM.toT ?_); refine callP (rxack_i r2 _ w4 hIr hj4) rfl rfl ?_; rintro _ _ - ⟨rfl, rfl⟩; ((try simp only [seval, go_sem]);repeat((with_reducible first|refine vJ ?_|refine vK ?_);try simp only [seval, go_sem]))
          have hct := txhear_i c t1 (rxAck r2) (.slice fA2 t1.flight.length fC2) (.slice qA2 t1.queue.length qC2) (.slice none 0 0) w4 hI1 (hf3.mono hw4) (hq3.mono hw4) (Sl.nil _ _ _) (sayFrm_ok hIr.expect rfl (goWait_02 _)) (.inr rfl)
          rw [g3] at hct
          (try with_reducible refine callM.toT ?_); refine callP (hct) rfl rfl ?_; rintro u w5' hw5 ⟨fA3, fC3, qA3, qC3, rfl, hf5, hq5⟩; ((try simp only [seval, go_sem]);repeat((with_reducible first|refine vJ ?_|refine vK ?_);try simp only [seval, go_sem]))
          (try with_reducible refine appM.toT ?_); (refine appM_rowF 91 atyS rfl rfl rfl rfl (hsr2.mono hw5) (by first | omega | simp) (hse2.one) (by omega) (fun A9 c9 hc9 => ?_)); ((try simp only [seval, go_sem]);repeat((with_reducible first|refine vJ ?_|refine vK ?_);try simp only [seval, go_sem]))
          have hww : w ≤ w5' := Zc.trans' hw3 (Zc.trans' hw4 hw5)
          refine ⟨⟨n + 1, t2, r2, put, got ++ sd, pcs, gcs ++ scs2, pA, pC, A9, c9, fA3, fC3, qA3, qC3, jA2, jC2, w5'⟩, ⟨⟨Zc.trans' hw hww, hI2, hpE.mono hww, Els.append (hgE.mono hww) (hse2.mono hw5), hpC, by rw [List.length_append]; exact hc9, hf5, hq5, hj4.mono hw5⟩, by dsimp only; rw [hqq]; omega, hpk⟩, by dsimp only; omega, ?_⟩
          simp only [lnL, txC, rxC, List.length_append]
          (refine Le.of ?_ ?_ rfl ?_ ⟨rfl, rfl⟩; rotate_left; (simp only [LeL, look, del, Nat.reduceEqDiff, reduceCtorEq, if_true, if_false, reduceIte, Nat.succ_ne_self, and_true, true_and, and_self]); (first | exact Nat.le_refl _ | decide | (dsimp only; omega)); (simp (disch := omega) only [LeT, updL, st, reduceCtorEq, true_or, or_true, false_or, and_true, true_and, SV.c.injEq, SC.v.injEq, Value.int.injEq, Value.slice.injEq, wrap_in, Int.natCast_add, Int.natCast_one, Int.natCast_zero, Int.cast_ofNat_Int]) <;> (try (repeat' constructor)) <;> (first | rfl | omega))
        · have hq0 : t.queue = [] := List.eq_nil_of_length_eq_zero (by have := of_decide_eq_false hg; omega)
          have hall := hI.all hq0
          have h24 := hI.m24
          have hg24 : ∀ m ∈ got, m.length ≤ 100000000 := fun m hm => by rw [hall] at hm; have := h24 m hm; omega
          have hp24 : ∀ m ∈ put, m.length ≤ 100000000 := fun m hm => by have := h24 m hm; omega
          (try simp only [seval, go_sem])
          refine vsI.frzR 90 rfl rfl (fun A7 c7 z7 hv7 hc7 hz7 hr7 => ?_)
          injection hv7 with hv_1 hv_2 hv_3
          subst hv_1
          subst hv_3
          simp only [seval, go_sem]
          (refine vsI.frzR 91 rfl rfl (fun A8 c8 z8 hv8 hc8 hz8 hr8 => ?_)); (first | subst hv8 | (injection hv8 with hv_1 hv_2 hv_3; subst hv_1; subst hv_3)); ((try simp only [seval, go_sem]);repeat((with_reducible first|refine vJ ?_|refine vK ?_);try simp only [seval, go_sem]))
          have hz78 := Zc.trans' hz7 hz8
          (try with_reducible refine callM.toT ?_); refine callP (txok_i c t (.slice fA t.flight.length fC) (.slice qA t.queue.length qC) z8 hI.tx (hf.mono hz78) (hq.mono hz78)) rfl rfl ?_; rintro u w1 hw1 rfl; ((try simp only [seval, go_sem]);repeat((with_reducible first|refine vJ ?_|refine vK ?_);try simp only [seval, go_sem]))
          (try with_reducible refine callM.toT ?_); refine callP (rxok_i r (.slice jA r.join.got.length jC) w1 hI.rx ((hj.mono hz78).mono hw1)) rfl rfl ?_; rintro _ _ - ⟨rfl, rfl⟩; ((try simp only [seval, go_sem]);repeat((with_reducible first|refine vJ ?_|refine vK ?_);try simp only [seval, go_sem]))
          (try with_reducible refine callM.toT ?_); refine callP (lisdus got put (.slice gA got.length gC) (.slice pA put.length pC) w1 ⟨_, _, _, rfl, hc8, hgE.mono (Zc.trans' hz78 hw1), hr8.mono hw1⟩ ⟨_, _, _, rfl, hc7, hpE.mono (Zc.trans' hz78 hw1), hr7.mono (Zc.trans' hz8 hw1)⟩ (by omega) (by omega) hg24 hp24) rfl rfl ?_; rintro _ _ - ⟨rfl, rfl⟩; ((try simp only [seval, go_sem]);repeat((with_reducible first|refine vJ ?_|refine vK ?_);try simp only [seval, go_sem]))
          simp only [seval, go_sem, decide_eq_true hall, hI.cnt]
          ((try simp only [seval, go_sem]);repeat((with_reducible first|refine vJ ?_|refine vK ?_);try simp only [seval, go_sem]))
          simp only [seval, go_sem, beq_self_eq_true]
          ((try simp only [seval, go_sem]);repeat((with_reducible first|refine vJ ?_|refine vK ?_);try simp only [seval, go_sem]))
          (try with_reducible refine callM.toT ?_); refine callP (liok w1) rfl rfl ?_; rintro _ _ - ⟨rfl, rfl⟩; ((try simp only [seval, go_sem]);repeat((with_reducible first|refine vJ ?_|refine vK ?_);try simp only [seval, go_sem]))
          (((try simp only [seval, go_sem]);repeat((with_reducible first|refine vJ ?_|refine vK ?_);try simp only [seval, go_sem])); with_reducible refine FinV.of ?_; simp only [finE, finS, gt, look, SV.toV, SC.toV, allV, tupV, zq1, zq2, zq3, zq4, Nat.reduceAdd, Nat.reduceEqDiff, reduceCtorEq, if_true, if_false, reduceIte, Nat.succ_ne_self, true_and, zq5, zq7, zq8])
end Go.Proofs.YtpjaidjnamngaaaGreat
namespace Go.Proofs.YtpjaidjnamngaaaGreat.fnRxLine
open Go.ChangeShapes Go.WideShapes Go.ChangeAt Go.RowKit
open Go.ChangeMaps (open_string shut_string)
set_option linter.unusedVariables false
set_option linter.unusedSimpArgs false
theorem own : ownKnob Tryz.prog.godebug = none := by kernel_rfl
theorem laidOut : laidOutB Tryz.prog = true := by kernel_rfl
def IsRow (k : IntKind) (w : World) (a : Option Addr) (len cap : Nat) (zs : List Int) : Prop :=
  (a = none ∧ len = 0 ∧ cap = 0 ∧ zs = []) ∨
  ∃ x, a = some x ∧ len ≤ cap ∧ cap ≤ maxLen ∧ zs.length = cap ∧ (∀ i, i < zs.length → w.cell? (x.add i) = some (.int k (zs.getD i 0))) ∧ ∀ n ∈ zs, (Lit.int k n).wf = true
def all (W : World) : Zc := ⟨fun _ => True, W⟩
theorem all_wok (W : World) : WOk ⟨W, fun _ => False, all W⟩ (all W) (fun _ => False) W :=
  ⟨rfl, rfl, rfl, Nat.le_refl _, Nat.le_refl _, fun _ _ => rfl, fun _ h => h.elim, fun _ _ _ => rfl, fun _ h => h.elim, fun _ h => .inl h, Zc.rfl' _⟩
theorem IsRow.by {W : World} {a : Option Addr} {len cap : Nat} {zs : List Int} (h : IsRow .u8 W a len cap zs) : ∃ l, By (all W) l (.slice a len cap) := by
  rcases h with ⟨rfl, rfl, rfl, rfl⟩ | ⟨x, rfl, hlc, hcm, hl, hc, hw⟩
  · exact ⟨[], By.mk (Nat.le_refl _) (fun x hx => by cases hx) (RdAt.nil _ _ _)⟩
  · have hlen : (zs.take len).length = len := by rw [List.length_take]; omega
    refine ⟨zs.take len, ?_⟩
    have key := By.mk (z := all W) (l := zs.take len) (A := some x) (c := cap) (by omega) (fun y hy => ?_) (fun hn => ?_)
    · rw [hlen] at key; exact key
    · have := hw y (List.mem_of_mem_take hy)
      have h : IntKind.u8.min ≤ y ∧ y ≤ IntKind.u8.max := by simpa [Lit.wf] using this
      exact h
    · have h0 : 0 < zs.length := by
        cases zs with
        | nil => exact absurd (by simp [bc]) hn
        | cons _ _ => simp
      obtain ⟨b, o, rfl, hcell⟩ := ints_at hc h0
      refine ⟨b, o, rfl, ⟨trivial, cell_lt (hcell 0 h0)⟩, fun i u hu => ?_⟩
      simp only [bc, List.getElem?_map, Option.map_eq_some_iff] at hu
      obtain ⟨y, hy, rfl⟩ := hu
      rw [List.getElem?_take] at hy
      split at hy
      · obtain ⟨hi, rfl⟩ := List.getElem?_eq_some_iff.1 hy
        have := hcell i hi
        show W.cell? _ = _
        simpa [List.getD, hi] using this
      · cases hy
set_option maxRecDepth 100000 in
theorem lifted (os : Os) (started : os.Started) (H : Type) (enc : TypeId × Value → H) :
    ReturnsInHanded {} Tryz.checked os 4 .any (Rows.fnRxLineSpec.pre6 enc Tryz.prog Tryz.f4 Rows.fnRxLineRow.domain false) (Rows.fnRxLineSpec.post enc Tryz.prog Tryz.f4 false true false false) := by
  refine returnsInHanded_of_change_sized (C := Tryz.checked) own started (by kernel_rfl) Tryz.func4
    (ChangeSpec.witness6 (enc := enc) (C := Tryz.checked) false ⟨#[], #[.slice none 0 0], []⟩ 8 (by kernel_rfl) (by kernel_rfl) (by kernel_rfl) (by kernel_rfl)) ?_
  intro W base args ds gs before hval0 hW hcnd hsz0 _
  have hval : ∀ (j : Nat) t v, Tryz.f4.params[j]? = some t → args[j]? = some v → Value.okWide Tryz.prog W .any base t v := hval0
  have hW' := hW
  obtain ⟨p, q, hA0, hV, rfl, hfz, hnd⟩ := hW
  have hA : DataW.TrodAll enc Tryz.prog W 0 (fun _ => true) true Tryz.f4.params.toList args.toList ds p := hA0
  rw [Tryz.params4] at hA hval
  obtain ⟨v0, vs0, d0, ds0, p0, q0, hargs, rfl, rfl, h0, r0⟩ := trodAll_cons hA
  obtain ⟨rfl, rfl, rfl⟩ := trodAll_nil r0
  obtain rfl : args = #[v0] := by cases args; simp_all
  obtain ⟨rfl, rfl⟩ := trodVars_none hV
  obtain ⟨a0, len0, cap0, rfl⟩ := okWide_slice Tryz.underlying22 (hval 0 22 v0 rfl rfl)
  have k0 := h0
  have lt0 : ∀ x ∈ p0, x.block < W.heap.size := by obtain ⟨m, hm⟩ := k0; exact DataW.trod_lt m _ _ _ hm
  obtain ⟨z0, w0⟩ : ∃ zs, IsRow .u8 W a0 len0 cap0 zs := by
    obtain ⟨fuel, hf⟩ := h0
    rcases open_ints Tryz.underlying22 Tryz.underlying5 (by kernel_rfl) hf with ⟨hcs, _⟩ | ⟨x, l, c, zs, hcs, _, hl, hm, hz, _, hcell, hwz⟩
    · simp [Value.cells] at hcs
      obtain ⟨rfl, rfl, rfl⟩ := hcs
      exact ⟨[], .inl ⟨rfl, rfl, rfl, rfl⟩⟩
    · simp [Value.cells] at hcs
      obtain ⟨rfl, rfl, rfl⟩ := hcs
      exact ⟨zs, .inr ⟨_, rfl, hl, hm, by simpa using hz, hcell, hwz⟩⟩
  clear hA0 hval0 hsz0
  obtain ⟨l, hl⟩ := w0.by
  refine (rxLine_law l _ (all W) hl W (fun _ => False) (all_wok W) (fun _ h => h)).mono fun e W' ⟨v, z', A', F', he, ⟨_, hv⟩, _, ok⟩ => ?_
  subst he; subst hv
  have bel : Below W.heap.size W W' := ⟨ok.os, ok.tape, ok.output, ok.size, fun k hk => ok.unt k hk id⟩
  exact ⟨_, rfl, _, _, _, [], _, [], hW', trodAll_mk1 (shut_bool Tryz.underlying4 _), (trodAll_cons_mk (Below.trod laidOut (by kernel_rfl) (of_decide_eq_true (by kernel_rfl)) k0 bel lt0) trodAll_mk0), rfl, bel.frame _, fun h => by cases h⟩
theorem over : Rows.fnRxLineRow.holds Tryz.pinned (OpenSpec.ofChange Rows.fnRxLineSpec) :=
  OpenClaim.holds_of_wide 4 Tryz.f4 rfl rfl rfl rfl rfl rfl rfl ⟨rfl, rfl, rfl, rfl, rfl⟩ rfl rfl rfl rfl rfl (by kernel_rfl) Tryz.func4 (by kernel_rfl)
    (of_decide_eq_true (by kernel_rfl)) (by unfold Func.isWrapper; first | (rw [if_pos (by decide +kernel)]; kernel_rfl) | (rw [if_neg (by decide +kernel)]; exact ⟨rfl, rfl⟩))
    (fun os started H enc _ => lifted os started H enc)
theorem proved : Rows.FnRxLineSaid := over
#print axioms proved
end Go.Proofs.YtpjaidjnamngaaaGreat.fnRxLine
namespace Go.Proofs.YtpjaidjnamngaaaGreat
theorem fnRxLine_holds : Rows.FnRxLineSaid := fnRxLine.proved
end Go.Proofs.YtpjaidjnamngaaaGreat
