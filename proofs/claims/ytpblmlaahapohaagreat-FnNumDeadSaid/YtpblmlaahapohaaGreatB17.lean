/- What is drawn to happen to two ends, of one kind. · Codes of functions, group ImpT. · Who sends by numbers, by the program: what is ok, copies, what it takes. · Who sends by numbers, by the program: a piece is sent. · Who sends by numbers, by the program: a frame is heard. -/
import Derived.Test.YtpblmlaahapohaaGreatB15
import Derived.Test.YtpblmlaahapohaaGreatB16
import Derived.Test.YtpblmlaahapohaaGreatB3
import Derived.Test.YtpblmlaahapohaaGreatProg
import Derived.Test.YtpblmlaahapohaaGreatB4
import Derived.Test.YtpblmlaahapohaaGreatB10
import Derived.Test.YtpblmlaahapohaaGreatB11
import Derived.Test.YtpblmlaahapohaaGreatB6
namespace Go.Proofs.YtpblmlaahapohaaGreat
open Go.RowKit
set_option linter.unusedVariables false
set_option linter.unusedSimpArgs false
set_option maxRecDepth 100000
set_option maxHeartbeats 4000000
def PlayG (Q : Evt → Prop) (M : Int) (v : Value) (z : Zc) (A : Asrt) : Prop := ∃ (c : Cfg) (evs : List Evt) (B : Option Addr) (k : Nat) (link : Int) (m : WM) (e0 e1 : End) (n0 n1 : List Msg), v = .tuple #[vCfg c, .slice B evs.length k, wldV c link m] ∧ A = wldA e0 e1 n0 n1 m ∧ WldR z e0 e1 n0 n1 m ∧ WldI ⟨c, [e0, e1], [n0, n1], link⟩ ∧ Sl eRep z evs (.slice B evs.length k) ∧ CfgI c ∧ (0 < M → c.mode = M) ∧ (∀ e ∈ evs, Q e) ∧ evs.length ≤ 140
def DrawE (Q : Evt → Prop) (hard inj : Bool) : Prop := ∀ (b : Nat) (A : Option Addr) (cc : Nat) (code : List Int) (p : Int) (c : Cfg) (link : Int) (m : WM) (z : Zc), By z code (.slice A code.length cc) → (0 ≤ p ∧ p ≤ 800000) → code.length ≤ 2000 → (1 ≤ c.mtu ∧ c.mtu ≤ 24) →
    Spec Tryz.prog 41 [.pointer (some ⟨b, 0, none⟩), wldV c link m, .bool hard, .bool inj] z (starL [rdA b A code.length cc p]) fun v z' A' => ∃ (ev : Evt) (B : Option Addr) (n k : Nat) (p' : Int), v = vEvt ev (.slice B n k) ∧ A' = starL [rdA b A code.length cc p'] ∧ By z' ev.data (.slice B n k) ∧ EvD ev ∧ Q ev ∧ p ≤ p' ∧ p' ≤ p + 200
theorem drawE_h : DrawE (fun e => EvD e ∧ e.kind ≤ 10) true false := fun b A cc code p c link m z h1 h2 h3 h4 => (event_h b A cc code p c link m z h1 h2 h3 h4).mono fun v z' A' _ ⟨ev, B, n, k, p', g1, g2, g3, g4, g5, g6⟩ => ⟨ev, B, n, k, p', g1, g2, g3, g4, ⟨g4, g5⟩, g6⟩
theorem play_g (M : Int) (hM : M = 1 ∨ M = 2) (K : Int) (hS : StepE M K) (Q : Evt → Prop) (hQK : ∀ e, Q e → e.kind ≤ K) (hard inj : Bool) (hQ : DrawE Q hard inj) (b : Nat) (A : Option Addr) (cc : Nat) (code : List Int) (z : Zc) (hb : By z code (.slice A code.length cc)) (hlen : code.length ≤ 2000) :
    Spec Tryz.prog 18 [.pointer (some ⟨b, 0, none⟩), .int .i64 140, .int .i64 M, .bool hard, .bool inj] z (starL [rdA b A code.length cc 0]) (PlayG Q M) := by
  have hd : decide (M > 0) = true := decide_eq_true (by omega)
  (refine spec_enter1 Tryz.func18 ic18_ok fr18_ok Tryz.ntmps18 ?_; simp only [seval, go_sem, ic18, fr18])
  refine gO ?_
  refine tT ?_; refine callW 1000 (cfg_s b A cc code 0 z hb (by omega) hlen) rfl rfl rfl rfl ?_; rintro v1 z1 A1 hz1 ⟨⟨q1, q2, q3, q4, q5⟩, p1, rfl, rfl, hc1, hp1, hp1'⟩; refine gO ?_
  try simp only [hd]
  refine gO ?_
  have hc : CfgI ⟨M, q2, q3, q4, q5⟩ := ⟨hM, hc1.win, hc1.mps, hc1.mtu, hc1.tri⟩
  refine tT ?_; refine callO 1001 ((new_s ⟨M, q2, q3, q4, q5⟩ z1 (cfgOk_iff.2 hc)).mono fun _ _ _ _ h => wldH_of h (wldNew_I hc)) rfl rfl rfl ?_; rintro v2 z2 A2 hz2 ⟨e0, e1, n0, n1, m, link, rfl, rfl, hR, hW⟩; refine gO ?_
  refine tT ?_; refine callW 1000 (pick_s b A cc code p1 140 z2 ((hb.mono hz1).mono hz2) (by omega) hlen (by omega)) rfl rfl rfl rfl ?_; rintro v3 z3 A3 hz3 ⟨x, rfl, rfl, rfl, hx0, hx1, _⟩; refine gO ?_
  have hx1 := hx1 (by omega)
  obtain ⟨k0, rfl⟩ := Int.eq_ofNat_of_zero_le hx0
  refine loopV.toRow 90 4 rfl rfl (m := 0) (sz := 5) rfl (by omega) (fun b0 => ?_)
  simp only [seval, go_sem, rowSt, subV, subC, subE, subL]
  refine loop_upd (ι := PlayS) (n := 5) (fun s => z2 ≤ s.z ∧ s.k + s.evs.length = k0 ∧ p1 ≤ s.p ∧ s.p ≤ p1 + 1 + 200 * s.evs.length ∧ Els eRep s.z s.evs s.cs ∧ s.evs.length ≤ s.C ∧ (∀ e ∈ s.evs, Q e) ∧ WldR s.z s.e0 s.e1 s.n0 s.n1 s.m ∧ WldI ⟨⟨M, q2, q3, q4, q5⟩, [s.e0, s.e1], [s.n0, s.n1], s.link⟩) (fun s => [(15, .c (.v (.slice s.A s.evs.length s.C))), (16, .c (.v (.int .i64 s.k)))])
    (fun s => [(1000, .own (starL [rdA b A code.length cc s.p])), (1001, .own (wldA s.e0 s.e1 s.n0 s.n1 s.m)), (90, .own (rowA 38 5 (.slice s.A s.evs.length s.C) s.evs.length s.cs)), (3, .cells 31 [.v (.int .i64 M), .v (.int .i64 q2), .v (.int .i64 q3), .v (.int .i64 q4), .v (.int .i64 q5), .v (.slice s.m.E 2 s.m.EC), .v (.slice s.m.N 2 s.m.NC), .v (.int .i64 s.link)]), (2, .cells 24 [.v (.int .i64 M), .v (.int .i64 q2), .v (.int .i64 q3), .v (.int .i64 q4), .v (.int .i64 q5)]), (1, .cells 31 [.v (.int .i64 0), .v (.int .i64 0), .v (.int .i64 0), .v (.int .i64 0), .v (.int .i64 0), .v (.slice none 0 0), .v (.slice none 0 0), .v (.int .i64 0)]), (0, .cells 24 z5)])
    (fun s => s.z) (fun s => s.k) ⟨k0, p1 + 1, [], [], some ⟨b0, 0, none⟩, 0, e0, e1, n0, n1, link, m, z2⟩ ⟨Zc.rfl' _, by simp, by dsimp only; omega, by simp, rfl, Nat.le_refl _, by simp, hR, hW⟩ (by (simp only [wrI, wrR, anyL, st, List.append_nil, List.nil_append, List.cons_append]); exact rfl) ?_ ?_
  · simp only [List.length_nil]
    exact lX
  · rintro ⟨k, p, evs, cs, EA, EC, e0, e1, n0, n1, link, m, y⟩ ⟨hy, hk, hp2, hp3, hE, hEC, hEv, hR, hW⟩
    dsimp only at *
    refine gO ?_
    (with_reducible refine condI.split (fun hg => ?_) (fun hg => ?_) <;> (try simp only [hg]) <;> (try simp only [seval, go_sem]))
    · have hk0 : 0 < k := by have := of_decide_eq_true hg; omega
      refine gO ?_
      refine tT ?_; refine callW 1000 (hQ b A cc code p ⟨M, q2, q3, q4, q5⟩ link m y (((hb.mono hz1).mono hz2).mono hy) ⟨by omega, by omega⟩ hlen ⟨hc.mtu.1, hc.mtu.2⟩) rfl rfl rfl rfl ?_; rintro v4 z4 A4 hz4 ⟨eV, B, bn, bc, p', rfl, rfl, hby, hev, hqe, hp4, hp5⟩; refine gO ?_
      have hr4 := WldR.mono hz4 hR
      refine aT ?_; (refine appM_newF 90 atyV rfl rfl rfl rfl rfl rfl rfl (by simp [Value.oneCell']) (by omega) (fun A6 c6 hc6 hat6 => ?_)); simp only [seval, go_sem]
      refine gO ?_
      obtain ⟨hk1, hwho, hdl⟩ := hev
      have hEv' : ∀ x ∈ evs ++ [eV], Q x := fun x hx => by
        rcases List.mem_append.1 hx with hx | hx
        · exact hEv x hx
        · rw [List.mem_singleton.1 hx]; exact hqe
      have hW' := step_I (g := true) hW eV
      have hwk : IntKind.i64.wrap ((k : Int) - 1) = ((k - 1 : Nat) : Int) := by rw [wrap_in (by omega) (by omega)]; omega
      refine tT ?_; refine callW 1001 ((hS ⟨M, q2, q3, q4, q5⟩ link e0 e1 n0 n1 m eV (.slice B bn bc) z4 hby (by omega) hr4 hW rfl hwho ⟨hk1.1, hQK eV hqe⟩).mono fun _ _ _ _ h => wldH_of h hW') rfl rfl rfl rfl ?_; rintro v5 z5 A5 hz5 ⟨e0', e1', n0', n1', m', link', rfl, rfl, hR5, hW5⟩; refine gO ?_
      refine gO ?_
      simp only [hwk]
      refine ⟨⟨k - 1, p', evs ++ [eV], cs ++ [.int .i64 eV.kind, .int .i64 eV.who, .int .i64 eV.at_, .int .i64 eV.v, .slice B bn bc], A6, c6, e0', e1', n0', n1', link', m', z5⟩, ⟨Zc.trans' hy (Zc.trans' hz4 hz5), by dsimp only; rw [List.length_append, List.length_singleton]; omega, by dsimp only; omega, by dsimp only; rw [List.length_append, List.length_singleton]; omega, ?_, by dsimp only; rw [List.length_append, List.length_singleton]; omega, hEv', hR5, hW5⟩, by dsimp only; omega, ?_⟩
      · exact Els.append (hE.mono (Zc.trans' hz4 hz5)) (Els.single ⟨_, rfl, hby.mono hz5⟩)
      · simp only [List.length_append, List.length_singleton]
        exact lX
    · have hk0 : k = 0 := by have := of_decide_eq_false hg; omega
      subst hk0
      (try simp only [seval, go_sem])
      refine vsI.frzA 1001 rfl (RdA.wld hR) rfl (fun z6 hz6 hP6 => ?_)
      have hP6 := hP6 hz6
      simp only [seval, go_sem]
      (refine vsI.frzR 90 rfl rfl (fun A7 c7 z7 hv7 hc7 hz7 hr7 => ?_)); (first | subst hv7 | (injection hv7 with hv_1 hv_2 hv_3; subst hv_1; subst hv_3)); refine gO ?_
      refine tT ?_; refine callO 1001 ((copy_s ⟨M, q2, q3, q4, q5⟩ link e0 e1 n0 n1 m z7 (hP6.mono hz7) hW).mono fun _ _ _ _ h => wldH_of h hW) rfl rfl rfl ?_; rintro v8 z8 A8 hz8 ⟨e0', e1', n0', n1', m', link', rfl, rfl, hR8, hW8⟩; refine gO ?_
      (((try simp only [seval, go_sem]);repeat((with_reducible first|refine vJ ?_|refine vK ?_);try simp only [seval, go_sem])); refine FinV.own 1001 rfl ?_; simp only [finE, finS, gt, look, SV.toV, SC.toV, allV, tupV, zq1, zq2, zq3, zq4, Nat.reduceAdd, Nat.reduceEqDiff, reduceCtorEq, if_true, if_false, reduceIte, Nat.succ_ne_self, true_and, zq5, zq7, zq8])
      exact ⟨⟨M, q2, q3, q4, q5⟩, evs, _, _, link', m', e0', e1', n0', n1', rfl, rfl, hR8, hW8, ⟨_, _, _, rfl, hc7, hE.mono (Zc.trans' hz6 (Zc.trans' hz7 hz8)), hr7.mono hz8⟩, hc, fun _ => rfl, hEv, by omega⟩
def ic28 : IC := (xR (xt (.box 24 (xr 0)) 2 (xt (.box 46 (xr 1)) 3 (xt (.mv (xb false)) 4 .done))) (xR (xtF 3 2 6 (xtO 6 7 (xtL 7 8 (xtM 8 5 .done)))) (xR (xlA 2 5 9 (xm (.call 20 [xr 9]) 10 (xpM 10 11 (.op .p (.fad (xr 3) 1) (some 12) (some (11, true)) (.op .l (.ld (xr 12) 1 false) (some 13) (some (11, true)) (.op .m (.call 46 [xr 13]) (some 14) (some (11, true)) (xp (.pick (xr 11) (xr 14) (xb false)) 15 (xpM 15 16 (.op .p (.fad (xr 3) 0) (some 17) (some (16, true)) (.op .l (.ld (xr 17) 1 false) (some 18) (some (16, true)) (.op .m (.call 46 [xr 18]) (some 19) (some (16, true)) (xp (.pick (xr 16) (xr 19) (xb false)) 20 (xpM 20 21 (.op .p (.fad (xr 3) 1) (some 22) (some (21, true)) (.op .l (.ld (xr 22) 1 false) (some 23) (some (21, true)) (.op .p (.fad (xr 3) 0) (some 24) (some (21, true)) (.op .l (.ld (xr 24) 1 false) (some 25) (some (21, true)) (.op .p (.mv (xr 5)) (some 27) (some (21, true)) (.op .m (.call 51 [xr 23, xr 25]) (some 26) (some (21, true)) (.op .p (.bin .eql (xr 26) (xr 27)) (some 28) (some (21, true)) (xp (.pick (xr 21) (xr 28) (xb false)) 29 (xpM 29 30 (.op .p (.mv (xr 5)) (some 31) (some (30, true)) (.op .p (.fad (xr 2) 1) (some 32) (some (30, true)) (.op .l (.ld (xr 32) 1 false) (some 33) (some (30, true)) (.op .p (.bin .leq (xr 31) (xr 33)) (some 34) (some (30, true)) (xp (.pick (xr 30) (xr 34) (xb false)) 35 (xpM 35 36 (.op .p (.fad (xr 3) 3) (some 37) (some (36, true)) (.op .l (.ld (xr 37) 1 false) (some 38) (some (36, true)) (.op .p (.mv (xr 5)) (some 39) (some (36, true)) (.op .m (.call 27 [xr 38, (xi 0), xr 39]) (some 40) (some (36, true)) (xp (.pick (xr 36) (xr 40) (xb false)) 41 (xpM 41 42 (.op .p (.fad (xr 3) 4) (some 43) (some (42, true)) (.op .l (.ld (xr 43) 1 false) (some 44) (some (42, true)) (.op .p (.len (xr 44)) (some 45) (some (42, true)) (.op .p (.bin .leq (xr 45) (xi 24)) (some 46) (some (42, true)) (xp (.pick (xr 42) (xr 46) (xb false)) 47 (xpM 47 48 (.op .p (.fad (xr 3) 6) (some 49) (some (48, true)) (.op .l (.ld (xr 49) 1 false) (some 50) (some (48, true)) (.op .p (.fad (xr 2) 4) (some 51) (some (48, true)) (.op .l (.ld (xr 51) 1 false) (some 52) (some (48, true)) (.op .m (.call 27 [xr 50, (xi 0), xr 52]) (some 53) (some (48, true)) (xp (.pick (xr 48) (xr 53) (xb false)) 54 (xpM 54 55 (.op .p (.fad (xr 3) 8) (some 56) (some (55, true)) (.op .l (.ld (xr 56) 1 false) (some 57) (some (55, true)) (.op .m (.call 27 [xr 57, (xi 0), (xi 9999)]) (some 58) (some (55, true)) (xp (.pick (xr 55) (xr 58) (xb false)) 59 (xpM 59 60 (.op .p (.fad (xr 3) 8) (some 61) (some (60, true)) (.op .l (.ld (xr 61) 1 false) (some 62) (some (60, true)) (.op .p (.fad (xr 3) 1) (some 64) (some (60, true)) (.op .l (.ld (xr 64) 1 false) (some 65) (some (60, true)) (.op .m (.call 52 [xr 62]) (some 63) (some (60, true)) (.op .p (.bin .eql (xr 63) (xr 65)) (some 66) (some (60, true)) (xp (.pick (xr 60) (xr 66) (xb false)) 67 (xpM 67 68 (.op .l (.ld (xr 2) 5 true) (some 69) (some (68, true)) (.op .p (.fad (xr 3) 2) (some 70) (some (68, true)) (.op .l (.ld (xr 70) 1 false) (some 71) (some (68, true)) (.op .m (.call 53 [xr 69, xr 71]) (some 72) (some (68, true)) (xp (.pick (xr 68) (xr 72) (xb false)) 73 (xpM 73 74 (.op .l (.ld (xr 2) 5 true) (some 75) (some (74, true)) (.op .p (.fad (xr 3) 4) (some 76) (some (74, true)) (.op .l (.ld (xr 76) 1 false) (some 77) (some (74, true)) (.op .m (.call 53 [xr 75, xr 77]) (some 78) (some (74, true)) (xp (.pick (xr 74) (xr 78) (xb false)) 79 (xpM 79 4 .done)))))))))))))))))))))))))))))))))))))))))))))))))))))))))))))))))))))))) .ret)))
theorem ic28_ok : Tryz.f28.body.bind (trC Tryz.prog []) = some ic28 := by kernel_rfl
def fr28 : List FR := [(FR.t 4)]
theorem fr28_ok : fres Tryz.prog Tryz.f28.results.toList = some fr28 := by kernel_rfl
def ic76 : IC := (xR (xt (.box 46 (xr 0)) 1 (xt (.alc 46 [zI, zI, zS, zI, zS, zB, zI, zB, zI, zB]) 2 .done)) (xR (xpF 1 2 3 (xlO 3 4 (xpF 1 4 6 (xlO 6 7 (xm (.call 109 [xr 4]) 5 (xpF 1 2 9 (xm (.call 109 [xr 7]) 8 (xS 9 5 1 (xpF 1 4 10 (xS 10 8 1 .done)))))))))) (xR (xtA 1 10 11 (xS 2 11 10 .done)) .ret)))
theorem ic76_ok : Tryz.f76.body.bind (trC Tryz.prog []) = some ic76 := by kernel_rfl
def fr76 : List FR := [(FR.c 2 10 true)]
theorem fr76_ok : fres Tryz.prog Tryz.f76.results.toList = some fr76 := by kernel_rfl
def ic117 : IC := (xR (xt (.box 24 (xr 0)) 3 (xt (.box 46 (xr 1)) 4 (xt (.alc 46 [zI, zI, zS, zI, zS, zB, zI, zB, zI, zB]) 6 (xt (.mv (xb false)) 7 .done)))) (.seq (xR (xtA 3 5 10 (xtA 4 10 11 (xt (.call 28 [xr 10, xr 11]) 12 (xtT 12 13 .done)))) (.cond (xr 13) (xR (xt (.bld [zI, zI, zS, zI, zS, zB, zI, zB, zI, zB] []) 14 (xS 6 14 10 (xt (.mv (xb false)) 7 .done))) .ret) .skip)) (xR (xtA 4 10 15 (xt (.call 76 [xr 15]) 16 (xt (.alc 46 [zI, zI, zS, zI, zS, zB, zI, zB, zI, zB]) 8 (xS 8 16 10 .done)))) (.seq (xR (xtF 4 9 17 (xtO 17 18 (xtM 18 19 (xG (.mv (xr 2)) 20 19 false (xG (.len (xr 20)) 21 19 false (xG (.fad (xr 3) 3) 22 19 false (xG (.ld (xr 22) 1 false) 23 19 false (xG (.bin .gtr (xr 21) (xr 23)) 24 19 false (xt (.pick (xr 19) (xb true) (xr 24)) 25 .done))))))))) (.cond (xr 25) (xR (xtA 8 10 26 (xS 6 26 10 (xt (.mv (xb false)) 7 .done))) .ret) .skip)) (xR (xtM 2 27 (xtF 3 2 28 (xtO 28 29 (xt (.call 143 [xr 27, xr 29]) 30 (xtM 30 9 .done))))) (.seq (xR (xtF 4 4 31 (xtO 31 32 (xtL 32 33 (xtM 9 34 (xtL 34 35 (xt (.bin .add (xr 33) (xr 35)) 36 (xt (.bin .gtr (xr 36) (xi 24)) 37 .done))))))) (.cond (xr 37) (xR (xtA 8 10 38 (xS 6 38 10 (xt (.mv (xb false)) 7 .done))) .ret) .skip)) (xR (xtF 8 4 39 (xtO 39 40 (xtM 9 41 (xt (.app 44 (xr 40) (xr 41)) 42 (xt (.call 140 [xr 42]) 43 (xtF 8 4 44 (xS 44 43 1 .done))))))) (xR (xtA 8 10 45 (xS 6 45 10 (xt (.mv (xb true)) 7 .done))) .ret))))))))
theorem ic117_ok : Tryz.f117.body.bind (trC Tryz.prog []) = some ic117 := by kernel_rfl
def fr117 : List FR := [(FR.c 6 10 true), (FR.t 7)]
theorem fr117_ok : fres Tryz.prog Tryz.f117.results.toList = some fr117 := by kernel_rfl
def ic144 : IC := (xR (xt (.box 24 (xr 1)) 4 (xt (.alc 34 [zI, zI, zI, zB, zB, zI, zI, zI, zS]) 6 (xt (.mv (xb false)) 7 .done))) (xR (xtM 0 11 (xtN 11 12 (xtF 12 2 13 (xtO 13 14 (xtL 14 15 (xtM 15 8 .done)))))) (.seq (xR (xtM 0 16 (xtN 16 17 (xtF 17 9 18 (xtO 18 19 (xtM 19 20 (xG (.mv (xr 0)) 21 20 false (xG (.nil (xr 21)) 22 20 false (xG (.fad (xr 22) 5) 23 20 false (xG (.ld (xr 23) 1 false) 24 20 false (xt (.pick (xr 20) (xb true) (xr 24)) 25 (xtM 25 26 (xG (.mv (xr 0)) 27 26 false (xG (.nil (xr 27)) 28 26 false (xG (.fad (xr 28) 7) 29 26 false (xG (.ld (xr 29) 1 false) 30 26 false (xt (.pick (xr 26) (xb true) (xr 30)) 31 (xtM 31 32 (xG (.mv (xr 0)) 33 32 false (xG (.nil (xr 33)) 34 32 false (xG (.fad (xr 34) 3) 35 32 false (xG (.ld (xr 35) 1 false) 36 32 false (xG (.mv (xr 8)) 37 32 false (xG (.bin .eql (xr 36) (xr 37)) 38 32 false (xG (.mv (xr 38)) 39 32 false (xG (.mv (xr 8)) 40 39 true (xG (.fad (xr 4) 1) 41 39 true (xG (.ld (xr 41) 1 false) 42 39 true (xG (.bin .eql (xr 40) (xr 42)) 43 39 true (xG (.mv (xr 43)) 44 39 true (xG (.mv (xr 0)) 45 44 false (xG (.nil (xr 45)) 46 44 false (xG (.fad (xr 46) 4) 47 44 false (xG (.ld (xr 47) 1 false) 48 44 false (xG (.len (xr 48)) 49 44 false (xG (.bin .eql (xr 49) (xi 0)) 50 44 false (xG (.pick (xr 44) (xb true) (xr 50)) 51 39 true (xG (.mv (xr 51)) 52 39 true (xG (.mv (xr 0)) 53 52 false (xG (.nil (xr 53)) 54 52 false (xG (.fad (xr 54) 8) 55 52 false (xG (.ld (xr 55) 1 false) 56 52 false (xG (.mv (xr 8)) 57 52 false (xG (.bin .add (xr 56) (xr 57)) 58 52 false (xG (.bin .eql (xr 58) (xi 9999)) 59 52 false (xG (.pick (xr 52) (xb true) (xr 59)) 60 39 true (xG (.pick (xr 39) (xr 60) (xb false)) 61 32 false (xt (.pick (xr 32) (xb true) (xr 61)) 62 .done))))))))))))))))))))))))))))))))))))))))))))))) (.cond (xr 62) (xR (xt (.bld [zI, zI, zI, zB, zB, zI, zI, zI, zS] []) 63 (xS 6 63 9 (xt (.mv (xb false)) 7 .done))) .ret) .skip)) (.seq (xR (xtM 0 64 (xtN 64 65 (xtF 65 3 66 (xtO 66 67 (xtM 8 68 (xt (.bin .eql (xr 67) (xr 68)) 69 .done)))))) (.cond (xr 69) (xR (xpM 0 70 (xpM 0 71 (xpN 71 72 (xpF 72 2 73 (xlO 73 74 (xpM 0 75 (xpN 75 76 (xpF 76 4 77 (xlO 77 78 (xp (.iad (xr 78) (xi 0) 3) 79 (xlA 79 3 80 (xm (.bsl 123 3 1 [zI, zI, zS] [(0, (xr 80))]) 81 (xm (.app 44 (xr 74) (xr 81)) 82 (xpN 70 83 (xpF 83 2 84 (xS 84 82 1 .done)))))))))))))))) (xR (xtM 0 85 (xtM 0 86 (xtN 86 87 (xtF 87 4 88 (xtO 88 89 (xt (.slc (xr 89) (some (xi 1)) none 3) 90 (xtN 85 91 (xtF 91 4 92 (xS 92 90 1 .done))))))))) (xQ (xtM 0 93 (xtM 0 94 (xtN 94 95 (xtF 95 0 96 (xtO 96 97 (xt (.call 157 [xr 97]) 98 (xtN 93 99 (xtF 99 0 100 (xS 100 98 1 .done)))))))))))) .skip)) (xR (xpM 0 101 (xpN 101 102 (xpF 102 2 103 (xlO 103 104 (xpM 0 105 (xpN 105 106 (xpF 106 3 107 (xlO 107 108 (xpI 104 108 3 109 (xlA 109 3 110 (xm (.alc 123 [zI, zI, zS]) 9 (xS 9 110 3 .done)))))))))))) (.seq (.join [] (xpM 0 111 (xpN 111 112 (xpF 112 1 113 (xlO 113 114 (xpM 0 115 (xpN 115 116 (xpF 116 3 117 (xlO 117 118 (xp (.bin .add (xr 114) (xr 118)) 119 (xp (.bin .rem (xr 119) (xi 8)) 120 (xpM 2 121 (xpF 9 0 122 (xlO 122 123 (xpF 9 1 124 (xlO 124 125 (xpF 9 2 126 (xlO 126 127 (.alt (xm (.call 36 [xr 127]) 128 (xp (.bld [zI, zI, zI, zB, zB, zI, zI, zI, zS] [(0, (1, (xi 1))), (1, (1, (xr 120))), (2, (1, (xr 121))), (6, (1, (xr 123))), (7, (1, (xr 125))), (8, (1, (xr 128)))]) 129 (xm (.alc 34 [zI, zI, zI, zB, zB, zI, zI, zI, zS]) 10 (xS 10 129 9 .done)))) (xm (.alc 34 [zI, zI, zI, zB, zB, zI, zI, zI, zS]) 10 (xm (.call 36 [xr 127]) 128 (xp (.bld [zI, zI, zI, zB, zB, zI, zI, zI, zS] [(0, (1, (xi 1))), (1, (1, (xr 120))), (2, (1, (xr 121))), (6, (1, (xr 123))), (7, (1, (xr 125))), (8, (1, (xr 128)))]) 129 (xS 10 129 9 .done))))))))))))))))))))))) (xR (xtM 0 130 (xtN 130 131 (xtF 131 3 132 (xtO 132 133 (xt (.bin .add (xr 133) (xi 1)) 134 (xtN 130 135 (xtF 135 3 136 (xS 136 134 1 .done)))))))) (xR (xtA 10 9 137 (xS 6 137 9 (xt (.mv (xb true)) 7 .done))) .ret))))))))
theorem ic144_ok : Tryz.f144.body.bind (trC Tryz.prog []) = some ic144 := by kernel_rfl
def fr144 : List FR := [(FR.c 6 9 true), (FR.t 7)]
theorem fr144_ok : fres Tryz.prog Tryz.f144.results.toList = some fr144 := by kernel_rfl
def ic118 : IC := (xR (xt (.box 24 (xr 0)) 3 (xt (.box 46 (xr 1)) 4 (xt (.alc 46 [zI, zI, zS, zI, zS, zB, zI, zB, zI, zB]) 6 (xt (.alc 34 [zI, zI, zI, zB, zB, zI, zI, zI, zS]) 7 (xt (.mv (xb false)) 8 .done))))) (.seq (xR (xtA 3 5 12 (xtA 4 10 13 (xt (.call 28 [xr 12, xr 13]) 14 (xtT 14 15 (xtM 15 16 (xG (.mv (xr 2)) 17 16 false (xG (.call 46 [xr 17]) 18 16 false (xG (.not (xr 18)) 19 16 false (xt (.pick (xr 16) (xb true) (xr 19)) 20 .done))))))))) (.cond (xr 20) (xR (xt (.bld [zI, zI, zS, zI, zS, zB, zI, zB, zI, zB] []) 21 (xt (.bld [zI, zI, zI, zB, zB, zI, zI, zI, zS] []) 22 (xS 6 21 10 (xS 7 22 9 (xt (.mv (xb false)) 8 .done))))) .ret) .skip)) (xR (xtA 4 10 23 (xt (.call 76 [xr 23]) 24 (xt (.alc 46 [zI, zI, zS, zI, zS, zB, zI, zB, zI, zB]) 9 (xS 9 24 10 .done)))) (xR (xtA 3 5 26 (xtM 2 27 (xt (.call 144 [xr 9, xr 26, xr 27]) 28 (xtM 28 25 (xtE 25 0 29 (xtE 25 1 30 (xt (.alc 34 [zI, zI, zI, zB, zB, zI, zI, zI, zS]) 10 (xS 10 29 9 (xtM 30 11 .done))))))))) (.seq (.reg [6, 7] (xlA 9 10 31 (xlA 10 9 33 (xpM 11 34 (xm (.call 76 [xr 31]) 32 (.op .m (.sto (xr 6) (xr 32) 10) none none (.op .m (.sto (xr 7) (xr 33) 9) none none (xpM 34 8 .done)))))))) .ret)))))
theorem ic118_ok : Tryz.f118.body.bind (trC Tryz.prog []) = some ic118 := by kernel_rfl
def fr118 : List FR := [(FR.c 6 10 true), (FR.c 7 9 true), (FR.t 8)]
theorem fr118_ok : fres Tryz.prog Tryz.f118.results.toList = some fr118 := by kernel_rfl
def ic112 : IC := (xR (xt (.box 24 (xr 0)) 3 (xt (.box 46 (xr 1)) 4 (xt (.box 34 (xr 2)) 5 (xt (.alc 46 [zI, zI, zS, zI, zS, zB, zI, zB, zI, zB]) 6 .done)))) (.seq (xR (xtA 3 5 9 (xtA 4 10 10 (xt (.call 28 [xr 9, xr 10]) 11 (xtT 11 12 (xtM 12 13 (xG (.ld (xr 5) 9 true) 14 13 false (xG (.call 22 [xr 14]) 15 13 false (xG (.not (xr 15)) 16 13 false (xt (.pick (xr 13) (xb true) (xr 16)) 17 (xtM 17 18 (xG (.fad (xr 5) 0) 19 18 false (xG (.ld (xr 19) 1 false) 20 18 false (xG (.bin .neq (xr 20) (xi 1)) 21 18 false (xG (.mv (xr 21)) 22 18 false (xG (.fad (xr 5) 0) 23 22 true (xG (.ld (xr 23) 1 false) 24 22 true (xG (.bin .neq (xr 24) (xi 2)) 25 22 true (xG (.pick (xr 22) (xr 25) (xb false)) 26 18 false (xt (.pick (xr 18) (xb true) (xr 26)) 27 .done))))))))))))))))))) (.cond (xr 27) (xR (xt (.bld [zI, zI, zS, zI, zS, zB, zI, zB, zI, zB] []) 28 (xS 6 28 10 .done)) .ret) .skip)) (xR (xtA 4 10 29 (xt (.call 76 [xr 29]) 30 (xt (.alc 46 [zI, zI, zS, zI, zS, zB, zI, zB, zI, zB]) 7 (xS 7 30 10 .done)))) (.seq (xR (xtF 4 9 31 (xtO 31 32 .done)) (.cond (xr 32) (xR (xtA 7 10 33 (xS 6 33 10 .done)) .ret) .skip)) (xR (xtF 4 1 34 (xtO 34 35 (xtF 5 2 36 (xtO 36 37 (xt (.call 51 [xr 35, xr 37]) 38 (xtM 38 8 .done)))))) (.seq (xR (xtM 8 39 (xtF 4 2 40 (xtO 40 41 (xtL 41 42 (xt (.bin .gtr (xr 39) (xr 42)) 43 .done))))) (.cond (xr 43) (xR (xtF 7 9 44 (.op .t (.sto (xr 44) (xb true) 1) none none .done)) (xR (xtA 7 10 45 (xS 6 45 10 .done)) .ret)) .skip)) (xR (xtF 7 2 46 (xtO 46 47 (xtM 8 48 (xt (.slc (xr 47) (some (xr 48)) none 3) 49 (xt (.call 140 [xr 49]) 50 (xtF 7 2 51 (xS 51 50 1 .done))))))) (xR (xtF 4 3 52 (xtO 52 53 (xtM 8 54 (xt (.bin .sub (xr 53) (xr 54)) 55 (xt (.mx (xi 0) (xr 55)) 56 (xtF 7 3 57 (xS 57 56 1 .done))))))) (xR (xtF 5 2 58 (xtO 58 59 (xtF 7 1 60 (xS 60 59 1 .done)))) (xR (xtF 7 8 61 (xtO 61 62 (xtM 8 63 (xt (.bin .add (xr 62) (xr 63)) 64 (xtF 7 8 65 (xS 65 64 1 .done)))))) (.seq (xR (xtF 5 0 66 (xtO 66 67 (xt (.bin .eql (xr 67) (xi 2)) 68 .done))) (.cond (xr 68) (xQ (xtF 5 5 69 (xtO 69 70 (xt (.bin .eql (xr 70) (xi 2)) 71 (xtF 7 7 72 (xS 72 71 1 .done)))))) .skip)) (.seq (xR (xtF 5 4 73 (xtO 73 74 (xtM 74 75 (xG (.fad (xr 7) 5) 76 75 true (xG (.ld (xr 76) 1 false) 77 75 true (xt (.pick (xr 75) (xr 77) (xb false)) 78 .done)))))) (.cond (xr 78) (xQ (xtF 7 5 79 (.op .t (.sto (xr 79) (xb false) 1) none none (xtF 7 6 80 (.op .t (.sto (xr 80) (xi 0) 1) none none (xtF 7 3 81 (.op .t (.sto (xr 81) (xi 0) 1) none none .done))))))) .skip)) (.seq (xR (xtF 5 0 82 (xtO 82 83 (xt (.bin .eql (xr 83) (xi 2)) 84 (xtM 84 85 (xG (.fad (xr 5) 5) 86 85 true (xG (.ld (xr 86) 1 false) 87 85 true (xG (.bin .eql (xr 87) (xi 1)) 88 85 true (xt (.pick (xr 85) (xr 88) (xb false)) 89 (xtM 89 90 (xG (.fad (xr 7) 5) 91 90 true (xG (.ld (xr 91) 1 false) 92 90 true (xG (.not (xr 92)) 93 90 true (xt (.pick (xr 90) (xr 93) (xb false)) 94 .done))))))))))))) (.cond (xr 94) (xQ (xtF 7 3 95 (.op .t (.sto (xr 95) (xi 0) 1) none none .done))) .skip)) (xR (xtA 7 10 96 (xS 6 96 10 .done)) .ret))))))))))))))
theorem ic112_ok : Tryz.f112.body.bind (trC Tryz.prog []) = some ic112 := by kernel_rfl
def fr112 : List FR := [(FR.c 6 10 true)]
theorem fr112_ok : fres Tryz.prog Tryz.f112.results.toList = some fr112 := by kernel_rfl
def ic120 : IC := (xR (xt (.box 24 (xr 0)) 4 (xt (.box 46 (xr 1)) 5 (xt (.alc 46 [zI, zI, zS, zI, zS, zB, zI, zB, zI, zB]) 8 (xt (.alc 34 [zI, zI, zI, zB, zB, zI, zI, zI, zS]) 9 (xt (.mv (xb false)) 10 .done))))) (.seq (xR (xtA 4 5 12 (xtA 5 10 13 (xt (.call 28 [xr 12, xr 13]) 14 (xtT 14 15 (xtM 15 16 (xG (.mv (xr 2)) 17 16 false (xG (.call 46 [xr 17]) 18 16 false (xG (.not (xr 18)) 19 16 false (xt (.pick (xr 16) (xb true) (xr 19)) 20 .done))))))))) (.cond (xr 20) (xR (xt (.bld [zI, zI, zS, zI, zS, zB, zI, zB, zI, zB] []) 21 (xt (.bld [zI, zI, zI, zB, zB, zI, zI, zI, zS] []) 22 (xS 8 21 10 (xS 9 22 9 (xt (.mv (xb false)) 10 .done))))) .ret) .skip)) (xR (xtA 5 10 23 (xt (.call 76 [xr 23]) 24 (xt (.alc 46 [zI, zI, zS, zI, zS, zB, zI, zB, zI, zB]) 11 (xS 11 24 10 .done)))) (.seq (.block 0 (xR (xtF 5 9 26 (xtO 26 27 (xtM 27 28 (xG (.fad (xr 5) 2) 29 28 false (xG (.ld (xr 29) 1 false) 30 28 false (xG (.len (xr 30)) 31 28 false (xG (.bin .eql (xr 31) (xi 0)) 32 28 false (xG (.mv (xr 32)) 33 28 false (xG (.fad (xr 5) 7) 34 33 true (xG (.ld (xr 34) 1 false) 35 33 true (xG (.not (xr 35)) 36 33 true (xG (.pick (xr 33) (xr 36) (xb false)) 37 28 false (xG (.mv (xr 37)) 38 28 false (xG (.fad (xr 5) 5) 39 38 true (xG (.ld (xr 39) 1 false) 40 38 true (xG (.not (xr 40)) 41 38 true (xG (.pick (xr 38) (xr 41) (xb false)) 42 28 false (xt (.pick (xr 28) (xb true) (xr 42)) 43 (xtM 43 25 .done))))))))))))))))))) (.cond (xr 25) (xR (xtA 11 10 44 (xt (.bld [zI, zI, zI, zB, zB, zI, zI, zI, zS] []) 45 (xS 8 44 10 (xS 9 45 9 (xt (.mv (xb false)) 10 .done))))) .ret) (xR (xtF 5 6 47 (xtO 47 48 (xtF 4 4 49 (xtO 49 50 (xt (.bin .eql (xr 48) (xr 50)) 51 (xtM 51 46 .done)))))) (.cond (xr 46) (xR (xtF 11 9 52 (.op .t (.sto (xr 52) (xb true) 1) none none .done)) (xR (xtA 11 10 53 (xt (.bld [zI, zI, zI, zB, zB, zI, zI, zI, zS] []) 54 (xS 8 53 10 (xS 9 54 9 (xt (.mv (xb false)) 10 .done))))) .ret)) .skip))))) (xR (xtF 11 5 55 (.op .t (.sto (xr 55) (xb true) 1) none none .done)) (xR (xtF 11 6 56 (xtO 56 57 (xt (.bin .add (xr 57) (xi 1)) 58 (xtF 11 6 59 (xS 59 58 1 .done))))) (.seq (.reg [8, 9] (xlA 11 10 60 (xpM 2 61 (xpM 3 62 (xm (.call 145 [xr 62]) 63 (xp (.bld [zI, zI, zI, zB, zB, zI, zI, zI, zS] [(0, (1, (xi 2))), (2, (1, (xr 61))), (3, (1, (xb true))), (5, (1, (xr 63)))]) 64 (.op .m (.sto (xr 8) (xr 60) 10) none none (.op .m (.sto (xr 9) (xr 64) 9) none none (xp (.mv (xb true)) 10 .done))))))))) .ret)))))))
theorem ic120_ok : Tryz.f120.body.bind (trC Tryz.prog []) = some ic120 := by kernel_rfl
def fr120 : List FR := [(FR.c 8 10 true), (FR.c 9 9 true), (FR.t 10)]
theorem fr120_ok : fres Tryz.prog Tryz.f120.results.toList = some fr120 := by kernel_rfl
def ic29 : IC := (xR (xt (.box 48 (xr 0)) 1 (xt (.mv (xb false)) 2 .done)) (xR (xpF 1 0 3 (xlO 3 4 (xm (.call 46 [xr 4]) 5 (xpM 5 6 (.op .p (.fad (xr 1) 1) (some 7) (some (6, true)) (.op .l (.ld (xr 7) 1 false) (some 8) (some (6, true)) (.op .m (.call 27 [xr 8, (xi 0), (xi 9999)]) (some 9) (some (6, true)) (xp (.pick (xr 6) (xr 9) (xb false)) 10 (xpM 10 11 (.op .p (.fad (xr 1) 1) (some 12) (some (11, true)) (.op .l (.ld (xr 12) 1 false) (some 13) (some (11, true)) (.op .p (.fad (xr 1) 0) (some 15) (some (11, true)) (.op .l (.ld (xr 15) 1 false) (some 16) (some (11, true)) (.op .m (.call 52 [xr 13]) (some 14) (some (11, true)) (.op .p (.bin .eql (xr 14) (xr 16)) (some 17) (some (11, true)) (xp (.pick (xr 11) (xr 17) (xb false)) 18 (xpM 18 19 (.op .p (.fad (xr 1) 2) (some 20) (some (19, true)) (.op .l (.ld (xr 20) 2 true) (some 21) (some (19, true)) (.op .m (.call 54 [xr 21]) (some 22) (some (19, true)) (xp (.pick (xr 19) (xr 22) (xb false)) 23 (xpM 23 2 .done)))))))))))))))))))))) .ret))
theorem ic29_ok : Tryz.f29.body.bind (trC Tryz.prog []) = some ic29 := by kernel_rfl
def fr29 : List FR := [(FR.t 2)]
theorem fr29_ok : fres Tryz.prog Tryz.f29.results.toList = some fr29 := by kernel_rfl
def ic77 : IC := (xR (xt (.box 48 (xr 0)) 1 (xt (.alc 48 [zI, zI, zI, zS, zB, zB, zB]) 2 .done)) (xR (xtF 1 2 3 (xtF 3 1 4 (xtO 4 5 (xt (.call 36 [xr 5]) 6 (xtF 1 2 7 (xtF 7 1 8 (xS 8 6 1 .done))))))) (xR (xtA 1 7 9 (xS 2 9 7 .done)) .ret)))
theorem ic77_ok : Tryz.f77.body.bind (trC Tryz.prog []) = some ic77 := by kernel_rfl
def fr77 : List FR := [(FR.c 2 7 true)]
theorem fr77_ok : fres Tryz.prog Tryz.f77.results.toList = some fr77 := by kernel_rfl
def ic146 : IC := (xR (xt (.box 48 (xr 0)) 3 (xt (.alc 34 [zI, zI, zI, zB, zB, zI, zI, zI, zS]) 6 .done)) (xR (xtF 3 0 7 (xtO 7 8 (xtM 2 9 (xtM 1 10 (xt (.bld [zI, zI, zI, zB, zB, zI, zI, zI, zS] [(0, (1, (xi 2))), (2, (1, (xr 8))), (4, (1, (xr 9))), (5, (1, (xr 10)))]) 11 (xS 6 11 9 .done)))))) .ret))
theorem ic146_ok : Tryz.f146.body.bind (trC Tryz.prog []) = some ic146 := by kernel_rfl
def fr146 : List FR := [(FR.c 6 9 true)]
theorem fr146_ok : fres Tryz.prog Tryz.f146.results.toList = some fr146 := by kernel_rfl
def ic141 : IC := (xR (xt (.box 24 (xr 1)) 4 (xt (.box 34 (xr 2)) 5 (xt (.mv (.const zS)) 6 (xt (.mv (.const zS)) 7 .done)))) (.seq (.block 0 (xR (xtM 0 12 (xtN 12 13 (xtF 13 6 14 (xtO 14 15 (xtM 15 16 (xG (.fad (xr 5) 0) 17 16 false (xG (.ld (xr 17) 1 false) 18 16 false (xG (.bin .eql (xr 18) (xi 2)) 19 16 false (xG (.mv (xr 19)) 20 16 false (xG (.fad (xr 5) 3) 21 20 true (xG (.ld (xr 21) 1 false) 22 20 true (xG (.not (xr 22)) 23 20 true (xG (.pick (xr 20) (xr 23) (xb false)) 24 16 false (xt (.pick (xr 16) (xb true) (xr 24)) 25 (xtM 25 11 .done))))))))))))))) (.cond (xr 11) (xR (xt (.mv (.const zS)) 6 (xt (.mv (.const zS)) 7 .done)) .ret) (xR (xtF 5 0 27 (xtO 27 28 (xt (.bin .eql (xr 28) (xi 2)) 29 (xtM 29 26 .done)))) (.cond (xr 26) (xR (xtM 0 30 (xtN 30 31 (xtF 31 4 32 (.op .t (.sto (xr 32) (xb false) 1) none none .done)))) (xR (xpM 0 33 (xpN 33 34 (xlA 34 7 35 (xpM 0 36 (xpN 36 37 (xpF 37 5 38 (xlO 38 39 (xm (.call 145 [xr 39]) 40 (xm (.call 146 [xr 35, xr 40, (xb true)]) 41 (xp (.mv (.const zS)) 6 (xm (.bsl 34 9 1 [zI, zI, zI, zB, zB, zI, zI, zI, zS] [(0, (xr 41))]) 42 (xpM 42 7 .done)))))))))))) .ret)) (xR (xtM 0 44 (xtN 44 45 (xtF 45 5 46 (xtO 46 47 (xtM 47 43 .done))))) (.cond (xr 43) (xR (xtM 0 48 (xtN 48 49 (xtA 49 7 50 (xt (.call 146 [xr 50, (xi 2), (xb false)]) 51 (xt (.bsl 34 9 1 [zI, zI, zI, zB, zB, zI, zI, zI, zS] [(0, (xr 51))]) 52 (xt (.mv (.const zS)) 6 (xtM 52 7 .done))))))) .ret) (xR (xpF 5 1 54 (xlO 54 55 (xpM 0 56 (xpN 56 57 (xpF 57 0 58 (xlO 58 59 (xp (.bin .eql (xr 55) (xr 59)) 60 (xpM 60 53 .done)))))))) (.cond (xr 53) (.seq (xR (xtF 5 7 61 (xtO 61 62 (xtF 4 3 63 (xtO 63 64 (xt (.bin .gtr (xr 62) (xr 64)) 65 (xtM 65 66 (xG (.fad (xr 5) 8) 67 66 false (xG (.ld (xr 67) 1 false) 68 66 false (xG (.len (xr 68)) 69 66 false (xG (.fad (xr 4) 2) 70 66 false (xG (.ld (xr 70) 1 false) 71 66 false (xG (.bin .gtr (xr 69) (xr 71)) 72 66 false (xt (.pick (xr 66) (xb true) (xr 72)) 73 (xtM 73 74 (xG (.mv (xr 0)) 75 74 false (xG (.nil (xr 75)) 76 74 false (xG (.fad (xr 76) 1) 77 74 false (xG (.ld (xr 77) 1 false) 78 74 false (xG (.bin .eql (xr 78) (xi 9999)) 79 74 false (xt (.pick (xr 74) (xb true) (xr 79)) 80 .done)))))))))))))))))))) (.cond (xr 80) (xR (xtM 0 81 (xtN 81 82 (xtF 82 6 83 (.op .t (.sto (xr 83) (xb true) 1) none none .done)))) (xR (xt (.mv (.const zS)) 6 (xt (.mv (.const zS)) 7 .done)) .ret)) .skip)) (.seq (.join [] (xpM 0 85 (xpN 85 86 (xpF 86 2 87 (xlA 87 2 88 (xpF 5 6 89 (xlO 89 90 (xpF 5 7 91 (xlO 91 92 (xpF 5 8 93 (xlO 93 94 (xp (.bld [zI, zI, zS] [(0, (1, (xr 90))), (1, (1, (xr 92))), (2, (1, (xr 94)))]) 95 (.alt (xm (.call 156 [xr 88, xr 95]) 96 (xpM 96 84 (xpE 84 0 97 (xpE 84 1 98 (xpE 84 2 99 (xm (.alc 41 [zI, zS]) 8 (xS 8 97 2 (xpM 98 9 (xpM 99 10 .done))))))))) (xm (.alc 41 [zI, zS]) 8 (xm (.call 156 [xr 88, xr 95]) 96 (xpM 96 84 (xpE 84 0 97 (xpE 84 1 98 (xpE 84 2 99 (xS 8 97 2 (xpM 98 9 (xpM 99 10 .done)))))))))))))))))))))) (xR (xtM 0 100 (xtA 8 2 101 (xtN 100 102 (xtF 102 2 103 (xS 103 101 2 .done))))) (.seq (xR (xtM 10 104 (xt (.bin .eql (xr 104) (xi 3)) 105 .done)) (.cond (xr 105) (xR (xtM 0 106 (xtN 106 107 (xtF 107 6 108 (.op .t (.sto (xr 108) (xb true) 1) none none .done)))) (xR (xt (.mv (.const zS)) 6 (xt (.mv (.const zS)) 7 .done)) .ret)) .skip)) (xR (xtM 0 109 (xtM 0 110 (xtN 110 111 (xtF 111 0 112 (xtO 112 113 (xt (.call 157 [xr 113]) 114 (xtN 109 115 (xtF 115 0 116 (xS 116 114 1 .done))))))))) (xR (xtM 0 117 (xtN 117 118 (xtF 118 1 119 (xtO 119 120 (xt (.bin .add (xr 120) (xi 1)) 121 (xtN 117 122 (xtF 122 1 123 (xS 123 121 1 .done)))))))) (xR (xtM 0 124 (xtN 124 125 (xtF 125 4 126 (.op .t (.sto (xr 126) (xb false) 1) none none .done)))) (xR (xtM 10 127 (xt (.bin .eql (xr 127) (xi 2)) 128 .done)) (.cond (xr 128) (xR (xtM 9 129 (xt (.bsl 22 1 1 [zS] [(0, (xr 129))]) 130 (xtM 130 6 (xt (.mv (.const zS)) 7 .done)))) .ret) .skip))))))))) (xR (xpM 0 132 (xpN 132 133 (xpF 133 0 134 (xlO 134 135 (xpF 5 1 136 (xlO 136 137 (xpF 4 1 139 (xlO 139 140 (xm (.call 51 [xr 135, xr 137]) 138 (xp (.bin .lss (xr 138) (xr 140)) 141 (xpM 141 142 (.op .p (.mv (xr 0)) (some 143) (some (142, true)) (.op .p (.nil (xr 143)) (some 144) (some (142, true)) (.op .p (.fad (xr 144) 4) (some 145) (some (142, true)) (.op .l (.ld (xr 145) 1 false) (some 146) (some (142, true)) (.op .p (.not (xr 146)) (some 147) (some (142, true)) (xp (.pick (xr 142) (xr 147) (xb false)) 148 (xpM 148 131 .done)))))))))))))))))) (.cond (xr 131) (xR (xtM 0 149 (xtN 149 150 (xtF 150 4 151 (.op .t (.sto (xr 151) (xb true) 1) none none .done)))) (xR (xtM 0 152 (xtN 152 153 (xtA 153 7 154 (xt (.call 146 [xr 154, (xi 1), (xb false)]) 155 (xt (.bsl 34 9 1 [zI, zI, zI, zB, zB, zI, zI, zI, zS] [(0, (xr 155))]) 156 (xt (.mv (.const zS)) 6 (xtM 156 7 .done))))))) .ret)) .skip))))))))))) (xR (xt (.mv (.const zS)) 6 (xt (.mv (.const zS)) 7 .done)) .ret)))
theorem ic141_ok : Tryz.f141.body.bind (trC Tryz.prog []) = some ic141 := by kernel_rfl
def fr141 : List FR := [(FR.t 6), (FR.t 7)]
theorem fr141_ok : fres Tryz.prog Tryz.f141.results.toList = some fr141 := by kernel_rfl
def ic113 : IC := (xR (xt (.box 24 (xr 0)) 3 (xt (.box 48 (xr 1)) 4 (xt (.box 34 (xr 2)) 5 (xt (.alc 48 [zI, zI, zI, zS, zB, zB, zB]) 6 (xt (.mv (.const zS)) 7 (xt (.mv (.const zS)) 8 .done)))))) (.seq (xR (xtA 3 5 12 (xt (.call 20 [xr 12]) 13 (xtT 13 14 (xtM 14 15 (xG (.ld (xr 4) 7 true) 16 15 false (xG (.call 29 [xr 16]) 17 15 false (xG (.not (xr 17)) 18 15 false (xt (.pick (xr 15) (xb true) (xr 18)) 19 (xtM 19 20 (xG (.ld (xr 5) 9 true) 21 20 false (xG (.call 22 [xr 21]) 22 20 false (xG (.not (xr 22)) 23 20 false (xt (.pick (xr 20) (xb true) (xr 23)) 24 (xtM 24 25 (xG (.fad (xr 5) 0) 26 25 false (xG (.ld (xr 26) 1 false) 27 25 false (xG (.bin .neq (xr 27) (xi 1)) 28 25 false (xG (.mv (xr 28)) 29 25 false (xG (.fad (xr 5) 0) 30 29 true (xG (.ld (xr 30) 1 false) 31 29 true (xG (.bin .neq (xr 31) (xi 2)) 32 29 true (xG (.pick (xr 29) (xr 32) (xb false)) 33 25 false (xt (.pick (xr 25) (xb true) (xr 33)) 34 .done))))))))))))))))))))))) (.cond (xr 34) (xR (xt (.bld [zI, zI, zI, zS, zB, zB, zB] []) 35 (xS 6 35 7 (xt (.mv (.const zS)) 7 (xt (.mv (.const zS)) 8 .done)))) .ret) .skip)) (xR (xtA 4 7 36 (xt (.call 77 [xr 36]) 37 (xt (.alc 48 [zI, zI, zI, zS, zB, zB, zB]) 9 (xS 9 37 7 .done)))) (xR (xtA 3 5 39 (xtA 5 9 40 (xt (.call 141 [xr 9, xr 39, xr 40]) 41 (xtM 41 38 (xtE 38 0 42 (xtE 38 1 43 (xtM 42 10 (xtM 43 11 .done)))))))) (xR (xtA 9 7 44 (xt (.call 77 [xr 44]) 45 (xtM 10 46 (xtM 11 47 (xS 6 45 7 (xtM 46 7 (xtM 47 8 .done))))))) .ret)))))
theorem ic113_ok : Tryz.f113.body.bind (trC Tryz.prog []) = some ic113 := by kernel_rfl
def fr113 : List FR := [(FR.c 6 7 true), (FR.t 7), (FR.t 8)]
theorem fr113_ok : fres Tryz.prog Tryz.f113.results.toList = some fr113 := by kernel_rfl
def ic121 : IC := (xR (xt (.box 48 (xr 0)) 2 (xt (.alc 48 [zI, zI, zI, zS, zB, zB, zB]) 4 (xt (.mv (.const zS)) 5 .done))) (.seq (xR (xtA 2 7 7 (xt (.call 29 [xr 7]) 8 (xtT 8 9 .done))) (.cond (xr 9) (xR (xt (.bld [zI, zI, zI, zS, zB, zB, zB] []) 10 (xS 4 10 7 (xt (.mv (.const zS)) 5 .done))) .ret) .skip)) (xR (xtA 2 7 11 (xt (.call 77 [xr 11]) 12 (xt (.alc 48 [zI, zI, zI, zS, zB, zB, zB]) 6 (xS 6 12 7 .done)))) (.seq (xR (xtF 2 5 13 (xtO 13 14 (xtM 1 15 (xt (.eqb false (xr 14) (xr 15)) 16 (xtM 16 17 (xG (.fad (xr 2) 6) 18 17 false (xG (.ld (xr 18) 1 false) 19 17 false (xt (.pick (xr 17) (xb true) (xr 19)) 20 .done)))))))) (.cond (xr 20) (xR (xtA 6 7 21 (xS 4 21 7 (xt (.mv (.const zS)) 5 .done))) .ret) .skip)) (xR (xtM 1 22 (xtF 6 5 23 (xS 23 22 1 (xtF 6 4 24 (.op .t (.sto (xr 24) (xb false) 1) none none .done))))) (.seq (.join [4] (xlA 6 7 25 (xlA 6 7 26 (xpM 1 27 (xm (.call 145 [xr 27]) 28 (xm (.call 146 [xr 26, xr 28, (xb false)]) 29 (.alt (xm (.bsl 34 9 1 [zI, zI, zI, zB, zB, zI, zI, zI, zS] [(0, (xr 29))]) 30 (.op .m (.sto (xr 4) (xr 25) 7) none none (xpM 30 5 .done))) (.op .m (.sto (xr 4) (xr 25) 7) none none (xm (.bsl 34 9 1 [zI, zI, zI, zB, zB, zI, zI, zI, zS] [(0, (xr 29))]) 30 (xpM 30 5 .done)))))))))) .ret))))))
theorem ic121_ok : Tryz.f121.body.bind (trC Tryz.prog []) = some ic121 := by kernel_rfl
def fr121 : List FR := [(FR.c 4 7 true), (FR.t 5)]
theorem fr121_ok : fres Tryz.prog Tryz.f121.results.toList = some fr121 := by kernel_rfl
def ic122 : IC := (xR (xt (.box 48 (xr 0)) 1 (xt (.alc 34 [zI, zI, zI, zB, zB, zI, zI, zI, zS]) 2 .done)) (.seq (xR (xtA 1 7 3 (xt (.call 29 [xr 3]) 4 (xtT 4 5 .done))) (.cond (xr 5) (xR (xt (.bld [zI, zI, zI, zB, zB, zI, zI, zI, zS] []) 6 (xS 2 6 9 .done)) .ret) .skip)) (.seq (.reg [2] (xlA 1 7 7 (xpF 1 5 8 (xlO 8 9 (xm (.call 145 [xr 9]) 10 (xm (.call 146 [xr 7, xr 10, (xb false)]) 11 (.op .m (.sto (xr 2) (xr 11) 9) none none .done))))))) .ret)))
theorem ic122_ok : Tryz.f122.body.bind (trC Tryz.prog []) = some ic122 := by kernel_rfl
def fr122 : List FR := [(FR.c 2 9 true)]
theorem fr122_ok : fres Tryz.prog Tryz.f122.results.toList = some fr122 := by kernel_rfl
set_option maxHeartbeats 1000000
theorem TxI.flSmall {c : Cfg} {t : Tx} (h : TxI c t) : ∀ p ∈ t.flight, p.data.length ≤ 8 := fun p hp => by have := (h.fl p hp).2; have := h.cfg.mps; omega
theorem TxI.quSmall {c : Cfg} {t : Tx} (h : TxI c t) : ∀ p ∈ t.queue, p.data.length ≤ 8 := fun p hp => by have := (h.qu p hp).2; have := h.cfg.mps; omega
theorem txok_i (c : Cfg) (t : Tx) (f q : Value) (z : Zc) (hI : TxI c t) (hf : Sl pRep z t.flight f) (hq : Sl pRep z t.queue q) : PSpec Tryz.prog 28 [vCfg c, vTx t f q] z fun u z' => u = .bool true := by
  obtain ⟨A, k, cs, rfl, hk, he, hr⟩ := hf
  obtain ⟨B, k2, cs2, rfl, hk2, he2, hr2⟩ := hq
  have hw := hI.win
  have hcw := hI.cfg.win
  have hac := hI.acked
  have hnx := hI.next
  have hq24 := hI.queue
  have hcn := hI.count
  have d1 : decide ((t.flight.length : Int) ≤ c.win) = true := decide_eq_true hw
  have d2 : decide ((t.queue.length : Int) ≤ 24) = true := decide_eq_true (by omega)
  have p1 : partsOk c t.flight = true := partsOk_iff.2 hI.fl
  have p2 : partsOk c t.queue = true := partsOk_iff.2 hI.qu
  (refine pspec_enter Tryz.func28 ic28_ok fr28_ok Tryz.ntmps28 ?_; simp only [seval, go_sem, ic28, fr28])
  refine gO ?_
  refine tT ?_; refine callP (cfgok_i c z) rfl rfl ?_; rintro _ _ - ⟨rfl, rfl⟩; refine gO ?_
  simp only [cfgOk_iff.2 hI.cfg]
  refine gO ?_
  refine tT ?_; refine callP (isnum t.acked z) rfl rfl ?_; rintro _ _ - ⟨rfl, rfl⟩; refine gO ?_
  simp only [isNum_iff.2 hac]
  refine gO ?_
  refine tT ?_; refine callP (isnum t.next z) rfl rfl ?_; rintro _ _ - ⟨rfl, rfl⟩; refine gO ?_
  simp only [isNum_iff.2 hnx]
  refine gO ?_
  refine tT ?_; refine callP (far_i t.acked t.next z (by omega) (by omega) (by omega)) rfl rfl ?_; rintro _ _ - ⟨rfl, rfl⟩; refine gO ?_
  try simp only [hI.far]
  simp only [seval, go_sem, beq_self_eq_true, d1]
  refine gO ?_
  refine tT ?_; refine callP (in_i t.sent 0 (t.flight.length : Int) z) rfl rfl ?_; rintro _ _ - ⟨rfl, rfl⟩; refine gO ?_
  simp only [inB_iff.2 hI.sent]
  simp only [seval, go_sem, d2]
  refine gO ?_
  refine tT ?_; refine callP (in_i t.tries 0 c.tri z) rfl rfl ?_; rintro _ _ - ⟨rfl, rfl⟩; refine gO ?_
  simp only [inB_iff.2 hI.tries]
  refine gO ?_
  refine tT ?_; refine callP (in_i t.count 0 9999 z) rfl rfl ?_; rintro _ _ - ⟨rfl, rfl⟩; refine gO ?_
  simp only [inB_iff.2 hcn]
  refine gO ?_
  refine tT ?_; refine callP (numof_i t.count z (by omega)) rfl rfl ?_; rintro _ _ - ⟨rfl, rfl⟩; refine gO ?_
  simp only [seval, go_sem, hI.num, beq_self_eq_true]
  refine gO ?_
  refine tT ?_; refine callP (partsok_i c t.flight _ z ⟨A, k, cs, rfl, hk, he, hr⟩ (by omega) (fun p hp => by have := hI.flSmall p hp; omega)) rfl rfl ?_; rintro u z1 hz1 rfl; refine gO ?_
  simp only [p1]
  refine gO ?_
  refine tT ?_; refine callP (partsok_i c t.queue _ z1 ⟨B, k2, cs2, rfl, hk2, he2.mono hz1, hr2.mono hz1⟩ (by omega) (fun p hp => by have := hI.quSmall p hp; omega)) rfl rfl ?_; rintro u z2 hz2 rfl; refine gO ?_
  simp only [p2]
  (first|refine fN ?_|exact fZ)
theorem txcopy_i (t : Tx) (f q : Value) (z : Zc) (hf : Sl pRep z t.flight f) (hq : Sl pRep z t.queue q) (hl : t.flight.length ≤ 1000000) (hl2 : t.queue.length ≤ 1000000) (hp : ∀ p ∈ t.flight, p.data.length ≤ 1000000000) (hp2 : ∀ p ∈ t.queue, p.data.length ≤ 1000000000) :
    PSpec Tryz.prog 76 [vTx t f q] z fun u z' => ∃ A B, u = vTx t (.slice A t.flight.length t.flight.length) (.slice B t.queue.length t.queue.length) ∧ Sl pRep z' t.flight (.slice A t.flight.length t.flight.length) ∧ Sl pRep z' t.queue (.slice B t.queue.length t.queue.length) := by
  obtain ⟨A, k, cs, rfl, hk, he, hr⟩ := hf
  obtain ⟨B, k2, cs2, rfl, hk2, he2, hr2⟩ := hq
  (refine pspec_enter Tryz.func76 ic76_ok fr76_ok Tryz.ntmps76 ?_; simp only [seval, go_sem, ic76, fr76])
  refine gO ?_
  refine tT ?_; refine callP (copyparts_i t.flight _ z ⟨A, k, cs, rfl, hk, he, hr⟩ hl hp) rfl rfl ?_; rintro u z1 hz1 ⟨A2, rfl, hs⟩; refine gO ?_
  refine tT ?_; refine callP (copyparts_i t.queue _ z1 ⟨B, k2, cs2, rfl, hk2, he2.mono hz1, hr2.mono hz1⟩ hl2 hp2) rfl rfl ?_; rintro u z2 hz2 ⟨A3, rfl, hs3⟩; refine gO ?_
  (first|refine fN ?_|exact fZ)
  exact ⟨_, _, rfl, hs.mono hz2, hs3⟩
def TxV (z : Zc) (t : Tx) (v : Value) : Prop := ∃ A a B b, v = vTx t (.slice A t.flight.length a) (.slice B t.queue.length b) ∧ Sl pRep z t.flight (.slice A t.flight.length a) ∧ Sl pRep z t.queue (.slice B t.queue.length b)
theorem TxV.mono {z z' : Zc} {t : Tx} {v : Value} (hz : z ≤ z') (h : TxV z t v) : TxV z' t v := by
  obtain ⟨A, a, B, b, h1, h2, h3⟩ := h
  exact ⟨A, a, B, b, h1, h2.mono hz, h3.mono hz⟩
theorem txput_i (c : Cfg) (t : Tx) (sdu : List Int) (f q v : Value) (z : Zc) (hI : TxI c t) (hf : Sl pRep z t.flight f) (hq : Sl pRep z t.queue q) (hv : By z sdu v) (hs : sdu.length ≤ 100000) :
    PSpec Tryz.prog 117 [vCfg c, vTx t f q, v] z fun u z' => ∃ A a B b, u = .tuple #[vTx (txPut c t sdu).1 (.slice A (txPut c t sdu).1.flight.length a) (.slice B (txPut c t sdu).1.queue.length b), .bool (txPut c t sdu).2] ∧ Sl pRep z' (txPut c t sdu).1.flight (.slice A (txPut c t sdu).1.flight.length a) ∧ Sl pRep z' (txPut c t sdu).1.queue (.slice B (txPut c t sdu).1.queue.length b) := by
  have hok := txok_i c t f q z hI hf hq
  have hw := hI.win
  have hcw := hI.cfg.win
  have hq24 := hI.queue
  have hmps := hI.cfg.mps
  have hp1 : ∀ p ∈ t.flight, p.data.length ≤ 1000000000 := fun p hp => by have := hI.flSmall p hp; omega
  have hp2 : ∀ p ∈ t.queue, p.data.length ≤ 1000000000 := fun p hp => by have := hI.quSmall p hp; omega
  obtain ⟨A, k, cs, rfl, hk, he, hr⟩ := hf
  obtain ⟨B, k2, cs2, rfl, hk2, he2, hr2⟩ := hq
  obtain ⟨Av, kv, rfl, hkv, hBv, hrv⟩ := hv.form
  (refine pspec_enter Tryz.func117 ic117_ok fr117_ok Tryz.ntmps117 ?_; simp only [seval, go_sem, ic117, fr117])
  refine gO ?_
  refine tT ?_; refine callP (hok) rfl rfl ?_; rintro u z1 hz1 rfl; refine gO ?_
  refine tT ?_; refine callP (txcopy_i t _ _ z1 (Sl.mono hz1 ⟨A, k, cs, rfl, hk, he, hr⟩) (Sl.mono hz1 ⟨B, k2, cs2, rfl, hk2, he2, hr2⟩) (by omega) (by omega) hp1 hp2) rfl rfl ?_; rintro u z2 hz2 ⟨A2, B2, rfl, hf2, hq2⟩; refine gO ?_
  (with_reducible refine guardR.split (fun hg => ?_) (fun hg => ?_) <;> (try simp only [hg]) <;> simp only [seval, go_sem])
  · refine gO ?_
    (first|refine fN ?_|exact fZ)
    rw [txPut_same (.inl hg)]
    exact ⟨_, _, _, _, by simp only [vTx, hg], hf2, hq2⟩
  · have hdead : t.dead = false := hg
    refine gO ?_
    (with_reducible refine condI.split (fun hg => ?_) (fun hg => ?_) <;> (try simp only [hg]) <;> (try simp only [seval, go_sem]))
    · (first|refine fN ?_|exact fZ)
      rw [txPut_same (.inr (.inl (by simpa using hg)))]
      exact ⟨_, _, _, _, by simp only [vTx, hdead], hf2, hq2⟩
    · have hmtu : (sdu.length : Int) ≤ c.mtu := by simpa using hg
      refine gO ?_
      refine tT ?_; refine callP (segCut_i sdu c.mps _ z2 (hv.mono (Zc.trans' hz1 hz2)) hs (by omega)) rfl rfl ?_; rintro u z3 hz3 hs3; refine gO ?_
      obtain ⟨A3, k3, cs3, rfl, hk3, he3, hr3⟩ := hs3
      have h24 := segCut_length sdu c.mps
      refine gO ?_
      have w1 : IntKind.i64.wrap ((t.queue.length : Int) + ((segCut sdu c.mps).length : Int)) = ((t.queue.length + (segCut sdu c.mps).length : Nat) : Int) := by rw [wrap_in (by omega) (by omega)]; omega
      (with_reducible refine condI.split (fun hg => ?_) (fun hg => ?_) <;> (try simp only [hg]) <;> (try simp only [seval, go_sem]))
      · rw [w1] at hg
        (first|refine fN ?_|exact fZ)
        rw [txPut_same (.inr (.inr (by simp at hg; omega)))]
        exact ⟨_, _, _, _, by simp only [vTx, hdead], hf2.mono hz3, hq2.mono hz3⟩
      · rw [w1] at hg
        refine gO ?_
        obtain ⟨A4, k4, cs4, e4, hk4, he4, hr4⟩ := hq2.mono hz3
        injection e4 with e4 _ _
        subst e4
        have hl4 : cs4.length = t.queue.length * 3 := he4.length
        have hl3 : cs3.length = (segCut sdu c.mps).length * 3 := he3.length
        refine aT ?_; (refine appM_fullR 99 atyP rfl rfl (hr4) (by first | omega | (simp <;> omega)) rfl (hr3) (by first | omega | (simp <;> omega)) (he3.one) (by omega) (fun A5 c5 z5 hz5 hc5 hr5 => ?_)); dsimp only at hz5; refine gO ?_
        have he5 := (he4.append he3).mono hz5
        refine tT ?_; refine callP (cloneP A5 _ c5 _ z5 hr5 (by rw [List.length_append]; omega) he5.one (by omega)) rfl rfl ?_; rintro u z6 hz6 ⟨A6, rfl, hr6⟩; refine gO ?_
        (first|refine fN ?_|exact fZ)
        rw [txPut_good hdead hmtu (by simp at hg; omega)]
        exact ⟨A2, t.flight.length, A6, t.queue.length + (segCut sdu c.mps).length, by simp only [vTx, hdead, List.length_append], hf2.mono (Zc.trans' hz3 (Zc.trans' hz5 hz6)), _, _, _, by rw [List.length_append], by rw [List.length_append]; exact Nat.le_refl _, he5.mono hz6, hr6⟩
set_option maxHeartbeats 2000000
abbrev txA (b : Nat) (t : Tx) (v u : Value) : Asrt := ptrA 46 b [.int .i64 t.next, .int .i64 t.acked, v, .int .i64 t.sent, u, .bool t.asks, .int .i64 t.tries, .bool t.held, .int .i64 t.count, .bool t.dead]
theorem txsend1 (b : Nat) (c : Cfg) (t : Tx) (ack : Int) (A B : Option Addr) (k : Nat) (z : Zc) (hI : TxI c t) (hf : Sl pRep z t.flight (.slice A t.flight.length t.flight.length)) (hq : Sl pRep z t.queue (.slice B t.queue.length k)) :
    Spec Tryz.prog 144 [.pointer (some ⟨b, 0, none⟩), vCfg c, .int .i64 ack] z (starL [txA b t (.slice A t.flight.length t.flight.length) (.slice B t.queue.length k)]) fun v z' A' => ∃ X n A2 a2 B2 b2, v = .tuple #[vFrm ((txSend false c t ack).2.getD frm0) (.slice X ((txSend false c t ack).2.getD frm0).data.length n), .bool (txSend false c t ack).2.isSome] ∧
      A' = starL [txA b (txSend false c t ack).1 (.slice A2 (txSend false c t ack).1.flight.length a2) (.slice B2 (txSend false c t ack).1.queue.length b2)] ∧ Sl pRep z' (txSend false c t ack).1.flight (.slice A2 (txSend false c t ack).1.flight.length a2) ∧ Sl pRep z' (txSend false c t ack).1.queue (.slice B2 (txSend false c t ack).1.queue.length b2) ∧ By z' ((txSend false c t ack).2.getD frm0).data (.slice X ((txSend false c t ack).2.getD frm0).data.length n) := by
  have hw := hI.win
  have hcw := hI.cfg.win
  have hac := hI.acked
  have hnx := hI.next
  have hq24 := hI.queue
  have hcn := hI.count
  have hsn := hI.sent
  have hfs := hI.flSmall
  have hqs := hI.quSmall
  obtain ⟨next, acked, flight, sent, queue, asks, tries, held, count, dead⟩ := t
  dsimp only at *
  (refine spec_enterP [] Tryz.func144 ic144_ok fr144_ok Tryz.ntmps144 rfl ?_; simp only [seval, go_sem, ic144, fr144, zipL, vals])
  have w1 : IntKind.i64.wrap (count + (flight.length : Int)) = count + flight.length := wrap_in (by omega) (by omega)
  cases dead
  rotate_left
  · refine gO ?_
    (refine FinV.give 1000 0 2001 2000 rfl rfl rfl ?_); simp only [seval, go_sem, giveSt, subV, subC, subE, subL]
    (refine FinV.pk 999 [1000] ?_); dsimp only
    refine fP ?_
    rw [txSend_stop (by simp [txStops])]
    exact ⟨none, 0, _, _, _, _, rfl, rfl, hf, hq, Sl.nil _ _ _⟩
  cases asks
  rotate_left
  · refine gO ?_
    (refine FinV.give 1000 0 2001 2000 rfl rfl rfl ?_); simp only [seval, go_sem, giveSt, subV, subC, subE, subL]
    (refine FinV.pk 999 [1000] ?_); dsimp only
    refine fP ?_
    rw [txSend_stop (by simp [txStops])]
    exact ⟨none, 0, _, _, _, _, rfl, rfl, hf, hq, Sl.nil _ _ _⟩
  cases held
  rotate_left
  · refine gO ?_
    (refine FinV.give 1000 0 2001 2000 rfl rfl rfl ?_); simp only [seval, go_sem, giveSt, subV, subC, subE, subL]
    (refine FinV.pk 999 [1000] ?_); dsimp only
    refine fP ?_
    rw [txSend_stop (by simp [txStops])]
    exact ⟨none, 0, _, _, _, _, rfl, rfl, hf, hq, Sl.nil _ _ _⟩
  (try simp only [seval, go_sem]); repeat' (first | (with_reducible refine vsI.id ?_; (try simp only [seval, go_sem])) | (with_reducible refine vcI_cond ?_; (try simp only [seval, go_sem])) | (with_reducible refine guardR.split (fun hg => ?_) (fun hg => ?_) <;> (try simp only [hg]) <;> simp only [seval, go_sem]) | (with_reducible refine condI.split (fun hg => ?_) (fun hg => ?_) <;> (try simp only [hg]) <;> (try simp only [seval, go_sem])) | (with_reducible refine callM.toT ?_))
  · simp only [beq_iff_eq, beq_eq_false_iff_ne, w1] at *
    (refine FinV.give 1000 0 2001 2000 rfl rfl rfl ?_); simp only [seval, go_sem, giveSt, subV, subC, subE, subL]
    (refine FinV.pk 999 [1000] ?_); dsimp only
    refine fP ?_
    rw [txSend_stop (by simp [txStops, txTop]; simp_all)]
    exact ⟨none, 0, _, _, _, _, rfl, rfl, hf, hq, Sl.nil _ _ _⟩
  · simp only [beq_iff_eq, beq_eq_false_iff_ne, w1] at *
    (refine FinV.give 1000 0 2001 2000 rfl rfl rfl ?_); simp only [seval, go_sem, giveSt, subV, subC, subE, subL]
    (refine FinV.pk 999 [1000] ?_); dsimp only
    refine fP ?_
    rw [txSend_stop (by simp [txStops, txTop]; simp_all)]
    exact ⟨none, 0, _, _, _, _, rfl, rfl, hf, hq, Sl.nil _ _ _⟩
  · simp only [beq_iff_eq, beq_eq_false_iff_ne, w1] at *
    (refine FinV.give 1000 0 2001 2000 rfl rfl rfl ?_); simp only [seval, go_sem, giveSt, subV, subC, subE, subL]
    (refine FinV.pk 999 [1000] ?_); dsimp only
    refine fP ?_
    rw [txSend_stop (by simp [txStops, txTop]; simp_all)]
    exact ⟨none, 0, _, _, _, _, rfl, rfl, hf, hq, Sl.nil _ _ _⟩
  · rename_i g1 g2 g3 g4
    have hq0 := hq
    have hs : sent = (flight.length : Int) := beq_iff_eq.1 g1
    subst hs
    obtain ⟨p, rest, rfl⟩ : ∃ p rest, queue = p :: rest := by
      cases queue with
      | nil => simp at g3
      | cons p rest => exact ⟨p, rest, rfl⟩
    obtain ⟨A', k', cs, e1, hk, he, hr⟩ := hf
    injection e1 with e1 _ e3
    subst e1
    obtain ⟨B', k2', cs2, e2, hk2, he2, hr2⟩ := hq
    injection e2 with e2 _ e4
    subst e2
    obtain ⟨c1, ⟨v1, rfl, hb⟩, hr1⟩ := he2.at hr2 (k := 0) (x := p) rfl
    obtain ⟨Ab, kb, rfl, hkb, hBb, hrb⟩ := hb.form
    have hatB : IsAt B := he2.isAt hr2 (by decide) (k := 0) (by simp)
    have hl4 : cs.length = flight.length * 3 := he.length
    refine ⟨⟨by simp, hatB⟩, ?_⟩
    (refine ldF.agg _ rfl (by first | exact .inl hr1 | exact hr1) ?_; (try simp only [seval, go_sem]))
    refine gO ?_
    refine aT ?_; (refine appM_fullN 99 atyP rfl rfl hr (by first | omega | (simp <;> omega)) rfl rfl rfl rfl (by simp [Value.oneCell']) (by omega) (fun A5 c5 z5 hz5 hc5 hr5 => ?_)); dsimp only at hz5; refine gO ?_
    refine ⟨by omega, ?_⟩; refine gO ?_
    refine tT ?_; refine callP (numnext_i next z5 (by omega)) rfl rfl ?_; rintro _ _ - ⟨rfl, rfl⟩; refine gO ?_
    have he5 := (he.mono hz5).append (Els.single (d := pRep) (x := p) ⟨_, rfl, hb.mono hz5⟩)
    obtain ⟨c2, ⟨v2, rfl, hb2⟩, hr6⟩ := he5.at hr5 (k := flight.length) (x := p) (by simp)
    obtain ⟨Ac, kc, rfl, hkc, hBc, hrc⟩ := hb2.form
    have hat5 : IsAt A5 := he5.isAt hr5 (by decide) (k := flight.length) (by simp)
    have hp8 := hqs p (by simp)
    refine ⟨⟨by omega, by omega, hat5⟩, ?_⟩
    (refine ldF.agg _ rfl (by first | exact .inl hr6 | exact hr6) ?_; (try simp only [seval, go_sem]))
    refine gO ?_
    (with_reducible refine joinV.id ?_; simp only [seval, go_sem])
    refine And.intro ?_ ?_
    all_goals
      refine tT ?_; refine callP (cloneBy p.data _ z5 hb2 (by omega)) rfl rfl ?_; rintro u z6 hz6 ⟨A6, rfl, hB6, hr7⟩; refine gO ?_
    all_goals (refine FinV.give 1000 0 2001 2000 rfl rfl rfl ?_); simp only [seval, go_sem, giveSt, subV, subC, subE, subL]
    all_goals (refine FinV.pk 999 [1000] ?_); dsimp only
    all_goals refine fP ?_
    all_goals rw [txSend_new (by simp [txStops, txTop, w1] at g2 g3 g4 ⊢; simp_all) rfl rfl, wrap_in (by omega) (by omega), Int.tmod_eq_emod_of_nonneg (by omega), wrap_in (by omega) (by omega)]
    all_goals exact ⟨A6, p.data.length, A5, c5, cutA B k 1 3, k - 1, rfl, by simp only [txA, List.length_append, List.length_singleton], ⟨_, _, _, rfl, by simp only [List.length_append, List.length_singleton]; omega, he5.mono hz6, hr5.mono hz6⟩, (Sl.of_drop hq0 1).mono (Zc.trans' hz5 hz6), By.mk (Nat.le_refl _) hB6 hr7⟩
  · exfalso
    simp_all
  · exfalso
    simp_all
  · have hs : sent ≠ (flight.length : Int) := beq_eq_false_iff_ne.1 hg
    obtain ⟨i, rfl⟩ := Int.eq_ofNat_of_zero_le hsn.1
    have hi : i < flight.length := by omega
    have hf0 := hf
    obtain ⟨A', k', cs, e1, hk, he, hr⟩ := hf
    injection e1 with e1 _ e3
    subst e1
    have hx : flight[i]? = some flight[i] := List.getElem?_eq_getElem hi
    have hgd : flight.getD i part0 = flight[i] := by simp [List.getD, hi]
    generalize flight[i] = p at hx hgd
    obtain ⟨c2, ⟨v2, rfl, hb2⟩, hr6⟩ := he.at hr hx
    obtain ⟨Ac, kc, rfl, hkc, hBc, hrc⟩ := hb2.form
    have hat : IsAt A := he.isAt hr (by decide) hi
    have hp8 := hfs p (List.mem_of_getElem? hx)
    refine ⟨⟨by omega, by omega, hat⟩, ?_⟩
    (refine ldF.agg _ rfl (by first | exact .inl hr6 | exact hr6) ?_; (try simp only [seval, go_sem]))
    refine gO ?_
    (with_reducible refine joinV.id ?_; simp only [seval, go_sem])
    refine And.intro ?_ ?_
    all_goals
      refine tT ?_; refine callP (cloneBy p.data _ z hb2 (by omega)) rfl rfl ?_; rintro u z6 hz6 ⟨A6, rfl, hB6, hr7⟩; refine gO ?_
    all_goals (refine FinV.give 1000 0 2001 2000 rfl rfl rfl ?_); simp only [seval, go_sem, giveSt, subV, subC, subE, subL]
    all_goals (refine FinV.pk 999 [1000] ?_); dsimp only
    all_goals refine fP ?_
    all_goals rw [txSend_old (by simp [txStops]; simp_all) hs, wrap_in (by omega) (by omega), Int.tmod_eq_emod_of_nonneg (by omega), wrap_in (by omega) (by omega)]
    all_goals simp only [Int.toNat_natCast, hgd]
    all_goals exact ⟨A6, p.data.length, A, _, B, k, rfl, rfl, hf0.mono hz6, hq.mono hz6, By.mk (Nat.le_refl _) hB6 hr7⟩
theorem txsend_i (c : Cfg) (t : Tx) (ack : Int) (f q : Value) (z : Zc) (hI : TxI c t) (hl : Low t) (hf : Sl pRep z t.flight f) (hq : Sl pRep z t.queue q) (hk : 0 ≤ ack ∧ ack ≤ 7) :
    PSpec Tryz.prog 118 [vCfg c, vTx t f q, .int .i64 ack] z fun u z' => ∃ X n A a B b, u = .tuple #[vTx (txSend false c t ack).1 (.slice A (txSend false c t ack).1.flight.length a) (.slice B (txSend false c t ack).1.queue.length b), vFrm ((txSend false c t ack).2.getD frm0) (.slice X ((txSend false c t ack).2.getD frm0).data.length n), .bool (txSend false c t ack).2.isSome] ∧
      Sl pRep z' (txSend false c t ack).1.flight (.slice A (txSend false c t ack).1.flight.length a) ∧ Sl pRep z' (txSend false c t ack).1.queue (.slice B (txSend false c t ack).1.queue.length b) ∧ By z' ((txSend false c t ack).2.getD frm0).data (.slice X ((txSend false c t ack).2.getD frm0).data.length n) := by
  have hok := txok_i c t f q z hI hf hq
  have hw := hI.win
  have hcw := hI.cfg.win
  have hq24 := hI.queue
  have hp1 : ∀ p ∈ t.flight, p.data.length ≤ 1000000000 := fun p hp => by have := hI.flSmall p hp; omega
  have hp2 : ∀ p ∈ t.queue, p.data.length ≤ 1000000000 := fun p hp => by have := hI.quSmall p hp; omega
  obtain ⟨A, k, cs, rfl, hka, he, hr⟩ := hf
  obtain ⟨B, k2, cs2, rfl, hk2, he2, hr2⟩ := hq
  (refine pspec_enter Tryz.func118 ic118_ok fr118_ok Tryz.ntmps118 ?_; simp only [seval, go_sem, ic118, fr118])
  refine gO ?_
  refine tT ?_; refine callP (hok) rfl rfl ?_; rintro u z1 hz1 rfl; refine gO ?_
  refine tT ?_; refine callP (isnum ack z1) rfl rfl ?_; rintro _ _ - ⟨rfl, rfl⟩; refine gO ?_
  simp only [isNum_iff.2 hk]
  refine gO ?_
  refine tT ?_; refine callP (txcopy_i t _ _ z1 (Sl.mono hz1 ⟨A, k, cs, rfl, hka, he, hr⟩) (Sl.mono hz1 ⟨B, k2, cs2, rfl, hk2, he2, hr2⟩) (by omega) (by omega) hp1 hp2) rfl rfl ?_; rintro u z2 hz2 ⟨A2, B2, rfl, hf2, hq2⟩; refine gO ?_
  (refine callT.give 90 4 2001 rfl rfl (fun b => ?_)); simp only [seval, go_sem, giveSt, subV, subC, subE, subL]
  refine tT ?_; (refine callM.pk 91 [90] ?_); dsimp only
  have hcall := fun b => txsend1 b c t ack A2 B2 t.queue.length z2 hI hf2 hq2
  have hI' := (@txSend_ok false c t ack hI hl).1
  generalize txSend false c t ack = tp at hcall hI' ⊢
  obtain ⟨t', o⟩ := tp
  dsimp only at hcall hI' ⊢
  refine tT ?_; refine callW 91 (hcall b) rfl rfl rfl rfl ?_; rintro v z3 A' hz3 ⟨X, n, A4, a4, B4, b4, rfl, rfl, h4, h5, h6⟩; (try simp only [seval, go_sem])
  (refine vsI.tf (Tf.open' 91 [92] rfl rfl rfl) ?_); simp only [seval, go_sem, zipL]
  (refine vsI.take 92 4 2001 rfl rfl rfl ?_); simp only [seval, go_sem, takeSt, unV, vals]; refine gO ?_
  have hw' := hI'.win
  have hq24' := hI'.queue
  refine tT ?_; refine callP (txcopy_i t' _ _ z3 h4 h5 (by omega) (by omega) (fun p hp => by have := hI'.flSmall p hp; omega) (fun p hp => by have := hI'.quSmall p hp; omega)) rfl rfl ?_; rintro v z4 hz4 ⟨A6, B6, rfl, h7, h8⟩; refine gO ?_
  (first|refine fN ?_|exact fZ)
  exact ⟨_, _, _, _, _, _, rfl, h7, h8, Sl.mono hz4 h6⟩
theorem txhear_i (c : Cfg) (t : Tx) (f : Frm) (fl q x : Value) (z : Zc) (hI : TxI c t) (hf : Sl pRep z t.flight fl) (hq : Sl pRep z t.queue q) (hx : By z f.data x) (hok : frmOk f = true) (hkk : f.kind = 1 ∨ f.kind = 2) :
    PSpec Tryz.prog 112 [vCfg c, vTx t fl q, vFrm f x] z fun u z' => ∃ A a B b, u = vTx (txHear t f) (.slice A (txHear t f).flight.length a) (.slice B (txHear t f).queue.length b) ∧ Sl pRep z' (txHear t f).flight (.slice A (txHear t f).flight.length a) ∧ Sl pRep z' (txHear t f).queue (.slice B (txHear t f).queue.length b) := by
  have hto := txok_i c t fl q z hI hf hq
  have hw := hI.win
  have hcw := hI.cfg.win
  have hac := hI.acked
  have hq24 := hI.queue
  have hcn := hI.count
  have hsn := hI.sent
  have hp1 : ∀ p ∈ t.flight, p.data.length ≤ 1000000000 := fun p hp => by have := hI.flSmall p hp; omega
  have hp2 : ∀ p ∈ t.queue, p.data.length ≤ 1000000000 := fun p hp => by have := hI.quSmall p hp; omega
  have hack := frm2ack hok hkk
  have hfb := frmOk_bound hok
  have hn0 := far_lt t.acked f.ack
  obtain ⟨n, hn⟩ := Int.eq_ofNat_of_zero_le hn0.1
  obtain ⟨A, k, cs, rfl, hka, he, hr⟩ := hf
  obtain ⟨B, k2, cs2, rfl, hk2, he2, hr2⟩ := hq
  obtain ⟨Ax, kx, rfl, hkx, hBx, hrx⟩ := hx.form
  obtain ⟨next, acked, flight, sent, queue, asks, tries, held, count, dead⟩ := t
  obtain ⟨kind, seq, ack, poll, fin, say, seg, len, data⟩ := f
  dsimp only at *
  (refine pspec_enter Tryz.func112 ic112_ok fr112_ok Tryz.ntmps112 ?_; simp only [seval, go_sem, ic112, fr112])
  refine gO ?_
  refine tT ?_; refine callP (hto) rfl rfl ?_; rintro u z1 hz1 rfl; refine gO ?_
  refine tT ?_; refine callP (frmOk_i ⟨kind, seq, ack, poll, fin, say, seg, len, data⟩ _ z1 (Sl.mono hz1 hx) (by show data.length ≤ _; omega)) rfl rfl ?_; rintro _ _ - ⟨rfl, rfl⟩; refine gO ?_
  simp only [hok]
  rcases hkk with rfl | rfl
  · simp only [seval, go_sem]
    refine gO ?_
    refine tT ?_; refine callP (txcopy_i ⟨next, acked, flight, sent, queue, asks, tries, held, count, dead⟩ _ _ z1 (Sl.mono hz1 ⟨A, k, cs, rfl, hka, he, hr⟩) (Sl.mono hz1 ⟨B, k2, cs2, rfl, hk2, he2, hr2⟩) (by show flight.length ≤ _; omega) (by show queue.length ≤ _; omega) hp1 hp2) rfl rfl ?_; rintro u z2 hz2 ⟨A2, B2, rfl, hf2, hq2⟩; refine gO ?_
    dsimp only at hf2 hq2
    cases dead with
    | true =>
      refine gO ?_
      (first|refine fN ?_|exact fZ)
      rw [txHear_dead rfl]
      exact ⟨_, _, _, _, rfl, hf2, hq2⟩
    | false =>
      refine gO ?_
      refine tT ?_; refine callP (far_i acked ack z2 (by omega) (by omega) (by omega)) rfl rfl ?_; rintro _ _ - ⟨rfl, rfl⟩; refine gO ?_
      by_cases hfar : far acked ack > flight.length
      · have d1 : decide (far acked ack > (flight.length : Int)) = true := decide_eq_true hfar
        rw [txHear_end rfl hfar]
        simp only [d1]
        refine gO ?_
        (first|refine fN ?_|exact fZ)
        exact ⟨_, _, _, _, rfl, hf2, hq2⟩
      · have d1 : decide (far acked ack > (flight.length : Int)) = false := decide_eq_false hfar
        rw [txHear_go rfl hfar]
        simp only [d1]
        refine gO ?_
        have hnl : n ≤ flight.length := by omega
        simp only [hn, Int.toNat_natCast] at *
        refine ⟨by omega, ?_⟩; refine gO ?_
        obtain ⟨A3, k3, cs3, e3, hk3, he3, hr3⟩ := Sl.of_drop hf2 n
        injection e3 with e3 e4 e5
        subst e3
        have hd1 : (flight.drop n).length = flight.length - n := by simp
        refine tT ?_; refine callP (cloneP _ _ _ cs3 z2 hr3 (by rw [he3.length, hd1]; rfl) he3.one (by omega)) rfl rfl ?_; rintro u z3 hz3 ⟨A4, rfl, hr4⟩; refine gO ?_
        have w1 : IntKind.i64.wrap (sent - (n : Int)) = sent - n := wrap_in (by omega) (by omega)
        have w2 : IntKind.i64.wrap (count + (n : Int)) = count + n := wrap_in (by omega) (by omega)
        have s1 : Sl pRep z3 (flight.drop n) (.slice A4 (flight.drop n).length (flight.length - n)) := ⟨_, _, cs3, rfl, by omega, he3.mono hz3, hr4⟩
        have s2 : Sl pRep z3 queue (.slice B2 queue.length queue.length) := hq2.mono hz3
        have w3 : (if sent - (n : Int) > 0 then sent - (n : Int) else 0) = max 0 (sent - n) := by split <;> omega
        have hb2 : (say == 2) = decide (say = 2) := by rw [Bool.eq_iff_iff]; simp
        clear hto he he2 hr hr2 hr4 hrx he3 hr3 hf2 hq2 hx hI hp1 hp2
        (try simp only [seval, go_sem]); repeat' (first | (with_reducible refine vsI.id ?_; (try simp only [seval, go_sem])) | (with_reducible refine vcI_cond ?_; (try simp only [seval, go_sem])) | (with_reducible refine guardR.split (fun hg => ?_) (fun hg => ?_) <;> (try simp only [hg]) <;> simp only [seval, go_sem]) | (with_reducible refine condI.split (fun hg => ?_) (fun hg => ?_) <;> (try simp only [hg]) <;> (try simp only [seval, go_sem])) | (with_reducible refine callM.toT ?_))
        all_goals (first|refine fN ?_|exact fZ)
        all_goals refine ⟨A4, flight.length - n, B2, queue.length, ?_, s1, s2⟩
        all_goals simp only [w1, w2, hd1, w3, hb2]
        all_goals clear s1 s2 w1 w2 w3 hb2 e4 e5 hd1 hk3 hnl hn0 hfar d1 hsn hcn hn
        all_goals simp_all
  · simp only [seval, go_sem]
    refine gO ?_
    refine tT ?_; refine callP (txcopy_i ⟨next, acked, flight, sent, queue, asks, tries, held, count, dead⟩ _ _ z1 (Sl.mono hz1 ⟨A, k, cs, rfl, hka, he, hr⟩) (Sl.mono hz1 ⟨B, k2, cs2, rfl, hk2, he2, hr2⟩) (by show flight.length ≤ _; omega) (by show queue.length ≤ _; omega) hp1 hp2) rfl rfl ?_; rintro u z2 hz2 ⟨A2, B2, rfl, hf2, hq2⟩; refine gO ?_
    dsimp only at hf2 hq2
    cases dead with
    | true =>
      refine gO ?_
      (first|refine fN ?_|exact fZ)
      rw [txHear_dead rfl]
      exact ⟨_, _, _, _, rfl, hf2, hq2⟩
    | false =>
      refine gO ?_
      refine tT ?_; refine callP (far_i acked ack z2 (by omega) (by omega) (by omega)) rfl rfl ?_; rintro _ _ - ⟨rfl, rfl⟩; refine gO ?_
      by_cases hfar : far acked ack > flight.length
      · have d1 : decide (far acked ack > (flight.length : Int)) = true := decide_eq_true hfar
        rw [txHear_end rfl hfar]
        simp only [d1]
        refine gO ?_
        (first|refine fN ?_|exact fZ)
        exact ⟨_, _, _, _, rfl, hf2, hq2⟩
      · have d1 : decide (far acked ack > (flight.length : Int)) = false := decide_eq_false hfar
        rw [txHear_go rfl hfar]
        simp only [d1]
        refine gO ?_
        have hnl : n ≤ flight.length := by omega
        simp only [hn, Int.toNat_natCast] at *
        refine ⟨by omega, ?_⟩; refine gO ?_
        obtain ⟨A3, k3, cs3, e3, hk3, he3, hr3⟩ := Sl.of_drop hf2 n
        injection e3 with e3 e4 e5
        subst e3
        have hd1 : (flight.drop n).length = flight.length - n := by simp
        refine tT ?_; refine callP (cloneP _ _ _ cs3 z2 hr3 (by rw [he3.length, hd1]; rfl) he3.one (by omega)) rfl rfl ?_; rintro u z3 hz3 ⟨A4, rfl, hr4⟩; refine gO ?_
        have w1 : IntKind.i64.wrap (sent - (n : Int)) = sent - n := wrap_in (by omega) (by omega)
        have w2 : IntKind.i64.wrap (count + (n : Int)) = count + n := wrap_in (by omega) (by omega)
        have s1 : Sl pRep z3 (flight.drop n) (.slice A4 (flight.drop n).length (flight.length - n)) := ⟨_, _, cs3, rfl, by omega, he3.mono hz3, hr4⟩
        have s2 : Sl pRep z3 queue (.slice B2 queue.length queue.length) := hq2.mono hz3
        have w3 : (if sent - (n : Int) > 0 then sent - (n : Int) else 0) = max 0 (sent - n) := by split <;> omega
        have hb2 : (say == 2) = decide (say = 2) := by rw [Bool.eq_iff_iff]; simp
        clear hto he he2 hr hr2 hr4 hrx he3 hr3 hf2 hq2 hx hI hp1 hp2
        (try simp only [seval, go_sem]); repeat' (first | (with_reducible refine vsI.id ?_; (try simp only [seval, go_sem])) | (with_reducible refine vcI_cond ?_; (try simp only [seval, go_sem])) | (with_reducible refine guardR.split (fun hg => ?_) (fun hg => ?_) <;> (try simp only [hg]) <;> simp only [seval, go_sem]) | (with_reducible refine condI.split (fun hg => ?_) (fun hg => ?_) <;> (try simp only [hg]) <;> (try simp only [seval, go_sem])) | (with_reducible refine callM.toT ?_))
        all_goals (first|refine fN ?_|exact fZ)
        all_goals refine ⟨A4, flight.length - n, B2, queue.length, ?_, s1, s2⟩
        all_goals simp only [w1, w2, hd1, w3, hb2]
        all_goals clear s1 s2 w1 w2 w3 hb2 e4 e5 hd1 hk3 hnl hn0 hfar d1 hsn hcn hn
        all_goals simp_all
end Go.Proofs.YtpblmlaahapohaaGreat
