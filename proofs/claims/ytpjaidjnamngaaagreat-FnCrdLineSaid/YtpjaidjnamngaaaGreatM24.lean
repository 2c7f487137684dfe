/- What is drawn to happen to two ends, on a link that keeps all. · Credits on a link that loses nothing: the law's walk. · The row of 'laws.FnCrdLine': for each list of bytes the law returns true, and the list reads as it read before. Conditions: none beyond the row's own. -/
import Derived.Test.YtpjaidjnamngaaaGreatM23
import Derived.Test.YtpjaidjnamngaaaGreatM21
import Derived.Test.YtpjaidjnamngaaaGreatM22
import Derived.Test.YtpjaidjnamngaaaGreatRows
import Derived.WalkKit
import Derived.ProofKit
import Derived.OpenShut
import Derived.ShutString
import Derived.ChangeOld
import Derived.Below
import Derived.SizedLaws
namespace Go.Proofs.YtpjaidjnamngaaaGreat
set_option linter.unusedVariables false
set_option linter.unusedSimpArgs false
open Go.RowKit
set_option maxRecDepth 100000
set_option maxHeartbeats 4000000
/-- What happens, in memory. -/
def eRep : Rep Evt where
  sz := 5
  K := fun z e cs => ∃ v, cs = [.int .i64 e.kind, .int .i64 e.who, .int .i64 e.at_, .int .i64 e.v, v] ∧ By z e.data v
  len := by rintro z x cs ⟨v, rfl, _⟩; rfl
  one := by rintro z x cs ⟨v, rfl, h⟩ u hu; simp at hu; rcases hu with rfl | rfl | rfl | rfl | rfl; rfl; rfl; rfl; rfl; exact h.one
  mono := by rintro z z' x cs hz ⟨v, rfl, h⟩; exact ⟨v, rfl, Sl.mono hz h⟩
theorem WldR.mono {z z' : Zc} {e0 e1 : End} {n0 n1 : List Msg} {m : WM} (hz : z ≤ z') (h : WldR z e0 e1 n0 n1 m) : WldR z' e0 e1 n0 n1 m := ⟨h.e0.mono hz, h.e1.mono hz, h.n0, h.n1⟩
theorem atyV : AppTy Tryz.prog 25 37 5 := AppTy.of (by kernel_rfl)
structure PlayS where
  k : Nat
  p : Int
  evs : List Evt
  cs : List Value
  A : Option Addr
  C : Nat
  e0 : End
  e1 : End
  n0 : List Msg
  n1 : List Msg
  link : Int
  m : WM
  z : Zc
/-- What is handed on as a run. -/
def PlayH (v : Value) (z : Zc) (A : Asrt) : Prop := ∃ (c : Cfg) (evs : List Evt) (B : Option Addr) (k : Nat) (link : Int) (m : WM) (e0 e1 : End) (n0 n1 : List Msg), v = .tuple #[vCfg c, .slice B evs.length k, wldV c link m] ∧ A = wldA e0 e1 n0 n1 m ∧ WldR z e0 e1 n0 n1 m ∧ WldI ⟨c, [e0, e1], [n0, n1], link⟩ ∧ Sl eRep z evs (.slice B evs.length k) ∧ CfgI c ∧ c.mode = 2 ∧ (∀ e ∈ evs, EvC e) ∧ evs.length ≤ 140
theorem wldH_of {c : Cfg} {w : Wld} {u : Value} {z : Zc} {A : Asrt} (h : WldH c w u z A) (hI : WldI w) : ∃ e0 e1 n0 n1 m link, u = wldV c link m ∧ A = wldA e0 e1 n0 n1 m ∧ WldR z e0 e1 n0 n1 m ∧ WldI ⟨c, [e0, e1], [n0, n1], link⟩ := by
  obtain ⟨e0, e1, n0, n1, m, h1, h2, h3, h4, h5, h6⟩ := h
  obtain ⟨c', es, ns, link⟩ := w
  dsimp only at h1 h2 h3 h4
  subst h1 h2 h3
  exact ⟨e0, e1, n0, n1, m, link, h4, h5, h6, hI⟩
theorem play_s (b : Nat) (A : Option Addr) (cc : Nat) (code : List Int) (z : Zc) (hb : By z code (.slice A code.length cc)) (hlen : code.length ≤ 2000) :
    Spec Tryz.prog 30 [.pointer (some ⟨b, 0, none⟩), .int .i64 140, .int .i64 2, .bool false, .bool false] z (starL [rdA b A code.length cc 0]) PlayH := by
  (refine spec_enter1 Tryz.func30 ic30_ok fr30_ok Tryz.ntmps30 ?_; simp only [seval, go_sem, ic30, fr30])
  ((try simp only [seval, go_sem]); repeat ((first | with_reducible refine vsI.id ?_ | with_reducible refine vcI_cond ?_); (try simp only [seval, go_sem])))
  (try with_reducible refine callM.toT ?_); refine callW 1000 (cfg_s b A cc code 0 z hb (by omega) hlen) rfl rfl rfl rfl ?_; rintro v1 z1 A1 hz1 ⟨⟨q1, q2, q3, q4, q5⟩, p1, rfl, rfl, hc1, hp1, hp1'⟩; (try simp only [seval, go_sem]); ((try simp only [seval, go_sem]); repeat ((first | with_reducible refine vsI.id ?_ | with_reducible refine vcI_cond ?_); (try simp only [seval, go_sem])))
  try simp only [seval, go_sem, show decide ((2 : Int) > 0) = true from rfl]
  ((try simp only [seval, go_sem]); repeat ((first | with_reducible refine vsI.id ?_ | with_reducible refine vcI_cond ?_); (try simp only [seval, go_sem])))
  have hc : CfgI ⟨2, q2, q3, q4, q5⟩ := ⟨.inr rfl, hc1.win, hc1.mps, hc1.mtu, hc1.tri⟩
  (try with_reducible refine callM.toT ?_); refine callO 1001 ((new_s ⟨2, q2, q3, q4, q5⟩ z1 (cfgOk_iff.2 hc)).mono fun _ _ _ _ h => wldH_of h (wldNew_I hc)) rfl rfl rfl ?_; rintro v2 z2 A2 hz2 ⟨e0, e1, n0, n1, m, link, rfl, rfl, hR, hW⟩; (try simp only [seval, go_sem]); ((try simp only [seval, go_sem]); repeat ((first | with_reducible refine vsI.id ?_ | with_reducible refine vcI_cond ?_); (try simp only [seval, go_sem])))
  (try with_reducible refine callM.toT ?_); refine callW 1000 (pick_s b A cc code p1 140 z2 ((hb.mono hz1).mono hz2) (by omega) hlen (by omega)) rfl rfl rfl rfl ?_; rintro v3 z3 A3 hz3 ⟨x, rfl, rfl, rfl, hx0, hx1, _⟩; (try simp only [seval, go_sem]); ((try simp only [seval, go_sem]); repeat ((first | with_reducible refine vsI.id ?_ | with_reducible refine vcI_cond ?_); (try simp only [seval, go_sem])))
  have hx1 := hx1 (by omega)
  obtain ⟨k0, rfl⟩ := Int.eq_ofNat_of_zero_le hx0
  refine loopV.toRow 90 4 rfl rfl (m := 0) (sz := 5) rfl (by omega) (fun b0 => ?_)
  simp only [seval, go_sem, rowSt, subV, subC, subE, subL]
  refine loop_upd (ι := PlayS) (n := 5) (fun s => z2 ≤ s.z ∧ s.k + s.evs.length = k0 ∧ p1 ≤ s.p ∧ s.p ≤ p1 + 1 + 200 * s.evs.length ∧ Els eRep s.z s.evs s.cs ∧ s.evs.length ≤ s.C ∧ (∀ e ∈ s.evs, EvC e) ∧ WldR s.z s.e0 s.e1 s.n0 s.n1 s.m ∧ WldI ⟨⟨2, q2, q3, q4, q5⟩, [s.e0, s.e1], [s.n0, s.n1], s.link⟩) (fun s => [(15, .c (.v (.slice s.A s.evs.length s.C))), (16, .c (.v (.int .i64 s.k)))])
    (fun s => [(1000, .own (starL [rdA b A code.length cc s.p])), (1001, .own (wldA s.e0 s.e1 s.n0 s.n1 s.m)), (90, .own (rowA 37 5 (.slice s.A s.evs.length s.C) s.evs.length s.cs)), (3, .cells 73 [.v (.int .i64 2), .v (.int .i64 q2), .v (.int .i64 q3), .v (.int .i64 q4), .v (.int .i64 q5), .v (.slice s.m.E 2 s.m.EC), .v (.slice s.m.N 2 s.m.NC), .v (.int .i64 s.link)]), (2, .cells 24 [.v (.int .i64 2), .v (.int .i64 q2), .v (.int .i64 q3), .v (.int .i64 q4), .v (.int .i64 q5)]), (1, .cells 73 [.v (.int .i64 0), .v (.int .i64 0), .v (.int .i64 0), .v (.int .i64 0), .v (.int .i64 0), .v (.slice none 0 0), .v (.slice none 0 0), .v (.int .i64 0)]), (0, .cells 24 z5)])
    (fun s => s.z) (fun s => s.k) ⟨k0, p1 + 1, [], [], some ⟨b0, 0, none⟩, 0, e0, e1, n0, n1, link, m, z2⟩ ⟨Zc.rfl' _, by simp, by dsimp only; omega, by simp, rfl, Nat.le_refl _, by simp, hR, hW⟩ (by (simp only [wrI, wrR, anyL, st, List.append_nil, List.nil_append, List.cons_append]); exact rfl) ?_ ?_
  · simp only [List.length_nil]
    (refine Le.of ?_ ?_ rfl ?_ ⟨rfl, rfl⟩; rotate_left; (simp only [LeL, look, del, Nat.reduceEqDiff, reduceCtorEq, if_true, if_false, reduceIte, Nat.succ_ne_self, and_true, true_and, and_self]); (first | exact Nat.le_refl _ | decide | (dsimp only; omega)); (simp (disch := omega) only [LeT, updL, st, reduceCtorEq, true_or, or_true, false_or, and_true, true_and, SV.c.injEq, SC.v.injEq, Value.int.injEq, Value.slice.injEq, wrap_in, Int.natCast_add, Int.natCast_one, Int.natCast_zero, Int.cast_ofNat_Int]) <;> (try (repeat' constructor)) <;> (first | rfl | omega))
  · rintro ⟨k, p, evs, cs, EA, EC, e0, e1, n0, n1, link, m, y⟩ ⟨hy, hk, hp2, hp3, hE, hEC, hEv, hR, hW⟩
    dsimp only at *
    ((try simp only [seval, go_sem]); repeat ((first | with_reducible refine vsI.id ?_ | with_reducible refine vcI_cond ?_); (try simp only [seval, go_sem])))
    (with_reducible refine condI.split (fun hg => ?_) (fun hg => ?_) <;> (try simp only [hg]) <;> (try simp only [seval, go_sem]))
    · have hk0 : 0 < k := by have := of_decide_eq_true hg; omega
      ((try simp only [seval, go_sem]); repeat ((first | with_reducible refine vsI.id ?_ | with_reducible refine vcI_cond ?_); (try simp only [seval, go_sem])))
      (try with_reducible refine callM.toT ?_); refine callW 1000 (event_s b A cc code p ⟨2, q2, q3, q4, q5⟩ link m y (((hb.mono hz1).mono hz2).mono hy) (by omega) hlen ⟨hc.mtu.1, hc.mtu.2⟩) rfl rfl rfl rfl ?_; rintro v4 z4 A4 hz4 ⟨eV, B, bn, bc, p', rfl, rfl, hby, hev, hp4, hp5⟩; (try simp only [seval, go_sem]); ((try simp only [seval, go_sem]); repeat ((first | with_reducible refine vsI.id ?_ | with_reducible refine vcI_cond ?_); (try simp only [seval, go_sem])))
      have hr4 := WldR.mono hz4 hR
      (try with_reducible refine appM.toT ?_); (refine appM_newF 90 atyV rfl rfl rfl rfl rfl rfl rfl (by simp [Value.oneCell']) (by omega) (fun A6 c6 hc6 hat6 => ?_)); simp only [seval, go_sem]
      ((try simp only [seval, go_sem]); repeat ((first | with_reducible refine vsI.id ?_ | with_reducible refine vcI_cond ?_); (try simp only [seval, go_sem])))
      obtain ⟨hk1, hwho, hdl⟩ := hev
      have hEv' : ∀ x ∈ evs ++ [eV], EvC x := fun x hx => by
        rcases List.mem_append.1 hx with hx | hx
        · exact hEv x hx
        · rw [List.mem_singleton.1 hx]; exact ⟨hk1, hwho, hdl⟩
      have hW' := step_I (g := true) hW eV
      have hwk : IntKind.i64.wrap ((k : Int) - 1) = ((k - 1 : Nat) : Int) := by rw [wrap_in (by omega) (by omega)]; omega
      rcases hwho with hw | hw
      · (try with_reducible refine callM.toT ?_); refine callW 1001 ((l9step_c0 ⟨2, q2, q3, q4, q5⟩ link e0 e1 n0 n1 m eV (.slice B bn bc) z4 hby (by omega) hr4 hW rfl hw ⟨hk1.1, by omega⟩).mono fun _ _ _ _ h => wldH_of h hW') rfl rfl rfl rfl ?_; rintro v5 z5 A5 hz5 ⟨e0', e1', n0', n1', m', link', rfl, rfl, hR5, hW5⟩; (try simp only [seval, go_sem]); ((try simp only [seval, go_sem]); repeat ((first | with_reducible refine vsI.id ?_ | with_reducible refine vcI_cond ?_); (try simp only [seval, go_sem])))
        ((try simp only [seval, go_sem]); repeat ((first | with_reducible refine vsI.id ?_ | with_reducible refine vcI_cond ?_); (try simp only [seval, go_sem])))
        simp only [hwk]
        refine ⟨⟨k - 1, p', evs ++ [eV], cs ++ [.int .i64 eV.kind, .int .i64 eV.who, .int .i64 eV.at_, .int .i64 eV.v, .slice B bn bc], A6, c6, e0', e1', n0', n1', link', m', z5⟩, ⟨Zc.trans' hy (Zc.trans' hz4 hz5), by dsimp only; rw [List.length_append, List.length_singleton]; omega, by dsimp only; omega, by dsimp only; rw [List.length_append, List.length_singleton]; omega, ?_, by dsimp only; rw [List.length_append, List.length_singleton]; omega, hEv', hR5, hW5⟩, by dsimp only; omega, ?_⟩
        · exact Els.append (hE.mono (Zc.trans' hz4 hz5)) (Els.single ⟨_, rfl, hby.mono hz5⟩)
        · simp only [List.length_append, List.length_singleton]
          (refine Le.of ?_ ?_ rfl ?_ ⟨rfl, rfl⟩; rotate_left; (simp only [LeL, look, del, Nat.reduceEqDiff, reduceCtorEq, if_true, if_false, reduceIte, Nat.succ_ne_self, and_true, true_and, and_self]); (first | exact Nat.le_refl _ | decide | (dsimp only; omega)); (simp (disch := omega) only [LeT, updL, st, reduceCtorEq, true_or, or_true, false_or, and_true, true_and, SV.c.injEq, SC.v.injEq, Value.int.injEq, Value.slice.injEq, wrap_in, Int.natCast_add, Int.natCast_one, Int.natCast_zero, Int.cast_ofNat_Int]) <;> (try (repeat' constructor)) <;> (first | rfl | omega))
      · (try with_reducible refine callM.toT ?_); refine callW 1001 ((l9step_c1 ⟨2, q2, q3, q4, q5⟩ link e0 e1 n0 n1 m eV (.slice B bn bc) z4 hby (by omega) hr4 hW rfl hw ⟨hk1.1, by omega⟩).mono fun _ _ _ _ h => wldH_of h hW') rfl rfl rfl rfl ?_; rintro v5 z5 A5 hz5 ⟨e0', e1', n0', n1', m', link', rfl, rfl, hR5, hW5⟩; (try simp only [seval, go_sem]); ((try simp only [seval, go_sem]); repeat ((first | with_reducible refine vsI.id ?_ | with_reducible refine vcI_cond ?_); (try simp only [seval, go_sem])))
        ((try simp only [seval, go_sem]); repeat ((first | with_reducible refine vsI.id ?_ | with_reducible refine vcI_cond ?_); (try simp only [seval, go_sem])))
        simp only [hwk]
        refine ⟨⟨k - 1, p', evs ++ [eV], cs ++ [.int .i64 eV.kind, .int .i64 eV.who, .int .i64 eV.at_, .int .i64 eV.v, .slice B bn bc], A6, c6, e0', e1', n0', n1', link', m', z5⟩, ⟨Zc.trans' hy (Zc.trans' hz4 hz5), by dsimp only; rw [List.length_append, List.length_singleton]; omega, by dsimp only; omega, by dsimp only; rw [List.length_append, List.length_singleton]; omega, ?_, by dsimp only; rw [List.length_append, List.length_singleton]; omega, hEv', hR5, hW5⟩, by dsimp only; omega, ?_⟩
        · exact Els.append (hE.mono (Zc.trans' hz4 hz5)) (Els.single ⟨_, rfl, hby.mono hz5⟩)
        · simp only [List.length_append, List.length_singleton]
          (refine Le.of ?_ ?_ rfl ?_ ⟨rfl, rfl⟩; rotate_left; (simp only [LeL, look, del, Nat.reduceEqDiff, reduceCtorEq, if_true, if_false, reduceIte, Nat.succ_ne_self, and_true, true_and, and_self]); (first | exact Nat.le_refl _ | decide | (dsimp only; omega)); (simp (disch := omega) only [LeT, updL, st, reduceCtorEq, true_or, or_true, false_or, and_true, true_and, SV.c.injEq, SC.v.injEq, Value.int.injEq, Value.slice.injEq, wrap_in, Int.natCast_add, Int.natCast_one, Int.natCast_zero, Int.cast_ofNat_Int]) <;> (try (repeat' constructor)) <;> (first | rfl | omega))
    · have hk0 : k = 0 := by have := of_decide_eq_false hg; omega
      subst hk0
      (try simp only [seval, go_sem])
      refine vsI.frzA 1001 rfl (RdA.wld hR) rfl (fun z6 hz6 hP6 => ?_)
      have hP6 := hP6 hz6
      simp only [seval, go_sem]
      (refine vsI.frzR 90 rfl rfl (fun A7 c7 z7 hv7 hc7 hz7 hr7 => ?_)); (first | subst hv7 | (injection hv7 with hv_1 hv_2 hv_3; subst hv_1; subst hv_3)); simp only [seval, go_sem]; ((try simp only [seval, go_sem]); repeat ((first | with_reducible refine vsI.id ?_ | with_reducible refine vcI_cond ?_); (try simp only [seval, go_sem])))
      (try with_reducible refine callM.toT ?_); refine callO 1001 ((copy_s ⟨2, q2, q3, q4, q5⟩ link e0 e1 n0 n1 m z7 (hP6.mono hz7) hW).mono fun _ _ _ _ h => wldH_of h hW) rfl rfl rfl ?_; rintro v8 z8 A8 hz8 ⟨e0', e1', n0', n1', m', link', rfl, rfl, hR8, hW8⟩; (try simp only [seval, go_sem]); ((try simp only [seval, go_sem]); repeat ((first | with_reducible refine vsI.id ?_ | with_reducible refine vcI_cond ?_); (try simp only [seval, go_sem])))
      (((try simp only [seval, go_sem]); repeat ((first | with_reducible refine vsI.id ?_ | with_reducible refine vcI_cond ?_); (try simp only [seval, go_sem]))); refine FinV.own 1001 rfl ?_; simp only [finE, finS, gt, look, SV.toV, SC.toV, allV, tupV, List.map_cons, List.map_nil, List.length_cons, List.length_nil, Nat.reduceAdd, Nat.reduceEqDiff, reduceCtorEq, if_true, if_false, reduceIte, Nat.succ_ne_self, true_and, List.getElem?_cons_zero, Nat.zero_add, Nat.add_zero])
      exact ⟨⟨2, q2, q3, q4, q5⟩, evs, _, _, link', m', e0', e1', n0', n1', rfl, rfl, hR8, hW8, ⟨_, _, _, rfl, hc7, hE.mono (Zc.trans' hz6 (Zc.trans' hz7 hz8)), hr7.mono hz8⟩, hc, rfl, hEv, by omega⟩
theorem drawCredit_s (code : List Int) (v : Value) (z : Zc) (h : By z code v) (hl : code.length ≤ 1000000000) : PSpec Tryz.prog 7 [v] z fun u z' => ∃ (c : Cfg) (evs : List Evt) (B : Option Addr) (k : Nat), u = .tuple #[vCfg c, .slice B evs.length k] ∧ Sl eRep z' evs (.slice B evs.length k) ∧ CfgI c ∧ c.mode = 2 ∧ (∀ e ∈ evs, EvC e) ∧ evs.length ≤ 140 := by
  obtain ⟨A0, c0, rfl, hc0, hB0, hr0⟩ := h.form
  (refine pspec_enter Tryz.func7 ic7_ok fr7_ok Tryz.ntmps7 ?_; simp only [seval, go_sem, ic7, fr7])
  ((try simp only [seval, go_sem]); repeat ((first | with_reducible refine vsI.id ?_ | with_reducible refine vcI_cond ?_); (try simp only [seval, go_sem])))
  (try with_reducible refine callM.toT ?_); refine callO 1000 (open_s code _ z h hl) rfl rfl rfl ?_; rintro u z1 A1 hz1 ⟨b, A, c, cd, rfl, rfl, hcd, hby⟩; (try simp only [seval, go_sem]); ((try simp only [seval, go_sem]); repeat ((first | with_reducible refine vsI.id ?_ | with_reducible refine vcI_cond ?_); (try simp only [seval, go_sem])))
  (try with_reducible refine callM.toT ?_); refine callW 1000 (play_s b A c cd z1 hby hcd) rfl rfl rfl rfl ?_; rintro u z2 A2 hz2 ⟨cf, evs, B, k, link, m, e0, e1, n0, n1, rfl, rfl, hR, hW, hE, hc, hm, hev, hlen⟩; (try simp only [seval, go_sem]); ((try simp only [seval, go_sem]); repeat ((first | with_reducible refine vsI.id ?_ | with_reducible refine vcI_cond ?_); (try simp only [seval, go_sem])))
  (((try simp only [seval, go_sem]); repeat ((first | with_reducible refine vsI.id ?_ | with_reducible refine vcI_cond ?_); (try simp only [seval, go_sem]))); with_reducible refine FinV.of ?_; simp only [finE, finS, gt, look, SV.toV, SC.toV, allV, tupV, List.map_cons, List.map_nil, List.length_cons, List.length_nil, Nat.reduceAdd, Nat.reduceEqDiff, reduceCtorEq, if_true, if_false, reduceIte, Nat.succ_ne_self, true_and, List.getElem?_cons_zero, Nat.zero_add, Nat.add_zero])
  exact ⟨cf, evs, B, k, rfl, hE, hc, hm, hev, hlen⟩
end Go.Proofs.YtpjaidjnamngaaaGreat
namespace Go.Proofs.YtpjaidjnamngaaaGreat
set_option linter.unusedVariables false
set_option linter.unusedSimpArgs false
open Go.RowKit
set_option maxRecDepth 100000
set_option maxHeartbeats 8000000
theorem VS.le' {s s' : St} {G : St → Prop} (hl : Le s s') (h : VS s' G) : VS s G := fun C ρ a w hs => (hl C ρ a w hs).elim fun ρ' h' => h C ρ' a w h'
/-- Behind a region with orders: one state. -/
theorem joinV.le {P : Program} {ic : IC} {K : Exit → St → Prop} {r : IReg} {s : St} {V : (St → Prop) → Prop} {ι : Type} (I : ι → Prop) (ds : List Nat) (upd : ι → List (Nat × SV)) (L : ι → Ents) (z : ι → Zc) (n : Nat) {T : List SV} (hT : anyL ds s.t = T)
    (hv : V (fun s' => ∃ i, I i ∧ Le s' ⟨updL (upd i) T, L i, z i, n⟩)) (hk : ∀ i, I i → vsI P ic K ⟨updL (upd i) T, L i, z i, n⟩) : joinV r s V (vsI P ic K) :=
  ⟨_, hv, fun s' ⟨i, hi, hl⟩ => VS.le' hl (hk i hi)⟩
structure LinS where
  k : Nat
  t : CTx
  r : CRx
  put : List (List Int)
  got : List (List Int)
  pcs : List Value
  gcs : List Value
  pA : Option Addr
  pC : Nat
  gA : Option Addr
  gC : Nat
  qA : Option Addr
  qC : Nat
  jA : Option Addr
  jC : Nat
  z : Zc
/-- What stands of them in memory. -/
structure LinM (z0 : Zc) (c : Cfg) (s : LinS) : Prop where
  z : z0 ≤ s.z
  I : LineI c s.t s.r s.put s.got
  pE : Els sduRep s.z s.put s.pcs
  gE : Els sduRep s.z s.got s.gcs
  pC : s.put.length ≤ s.pC
  gC : s.got.length ≤ s.gC
  q : Sl pRep s.z s.t.queue (.slice s.qA s.t.queue.length s.qC)
  j : By s.z s.r.join.got (.slice s.jA s.r.join.got.length s.jC)
theorem crdLine_law (code : List Int) (v : Value) (z : Zc) (h : By z code v) : PSpec Tryz.prog 3 [v] z fun u z' => u = .bool true := by
  obtain ⟨A0, c0, rfl, hc0, hB0, hr0⟩ := h.form
  (refine pspec_enter Tryz.func3 ic3_ok fr3_ok Tryz.ntmps3 ?_; simp only [seval, go_sem, ic3, fr3])
  ((try simp only [seval, go_sem]); repeat ((first | with_reducible refine vsI.id ?_ | with_reducible refine vcI_cond ?_); (try simp only [seval, go_sem])))
  (with_reducible refine condI.split (fun hg => ?_) (fun hg => ?_) <;> (try simp only [hg]) <;> (try simp only [seval, go_sem]))
  · (((try simp only [seval, go_sem]); repeat ((first | with_reducible refine vsI.id ?_ | with_reducible refine vcI_cond ?_); (try simp only [seval, go_sem]))); with_reducible refine FinV.of ?_; simp only [finE, finS, gt, look, SV.toV, SC.toV, allV, tupV, List.map_cons, List.map_nil, List.length_cons, List.length_nil, Nat.reduceAdd, Nat.reduceEqDiff, reduceCtorEq, if_true, if_false, reduceIte, Nat.succ_ne_self, true_and, List.getElem?_cons_zero, Nat.zero_add, Nat.add_zero])
  have hlen : code.length ≤ 1048576 := by have := of_decide_eq_false hg; omega
  ((try simp only [seval, go_sem]); repeat ((first | with_reducible refine vsI.id ?_ | with_reducible refine vcI_cond ?_); (try simp only [seval, go_sem])))
  (try with_reducible refine callM.toT ?_); refine callP (drawCredit_s code _ z h (by omega)) rfl rfl ?_; rintro u z1 hz1 ⟨c, evs, B, kB, rfl, hE, hc, hm, hev, hel⟩; (try simp only [seval, go_sem]); ((try simp only [seval, go_sem]); repeat ((first | with_reducible refine vsI.id ?_ | with_reducible refine vcI_cond ?_); (try simp only [seval, go_sem])))
  refine loopV.toRow 90 3 rfl rfl (m := 0) (sz := 1) rfl (by omega) (fun b0 => ?_)
  simp only [seval, go_sem, rowSt, subV, subC, subE, subL]
  refine loopV.toRow 91 4 rfl rfl (m := 0) (sz := 1) rfl (by omega) (fun b1 => ?_)
  simp only [seval, go_sem, rowSt, subV, subC, subE, subL]
  obtain ⟨cs, hEe, hEr⟩ := Els.one1 hE
  refine loop_upd (ι := LinS) (n := 5) (fun s => LinM z1 c s ∧ s.k ≤ evs.length ∧ s.put.length ≤ s.k ∧ s.t.queue = []) (fun s => [(9, .c (.v (.int .i64 s.k))), (7, .c (.v (.slice s.pA s.put.length s.pC))), (8, .c (.v (.slice s.gA s.got.length s.gC)))])
    (fun s => [(90, .own (rowA tyS 1 (.slice s.pA s.put.length s.pC) s.put.length s.pcs)), (91, .own (rowA tyS 1 (.slice s.gA s.got.length s.gC) s.got.length s.gcs)), (0, .cells 24 (c5 c)), (1, .cells 30 [.v (.int .i64 s.t.hav), .v (.slice s.qA s.t.queue.length s.qC), .v (.int .i64 s.t.granted), .v (.int .i64 s.t.sent), .v (.bool s.t.dead)]), (2, .cells 34 [.v (.int .i64 s.r.out), .v (.int .i64 s.r.join.len), .v (.slice s.jA s.r.join.got.length s.jC), .v (.bool s.r.dead)])])
    (fun s => s.z) (fun s => evs.length - s.k) ⟨0, ctx0, crx0, [], [], [], [], some ⟨b0, 0, none⟩, 0, some ⟨b1, 0, none⟩, 0, none, 0, none, 0, z1⟩ ⟨⟨Zc.rfl' _, LineI.start hc, rfl, rfl, Nat.le_refl _, Nat.le_refl _, Sl.nil _ _ _, Sl.nil _ _ _⟩, by simp, by simp, rfl⟩ (by (simp only [wrI, wrR, anyL, st, List.append_nil, List.nil_append, List.cons_append]); exact rfl) ?_ ?_
  · simp only [List.length_nil]
    (refine Le.of ?_ ?_ rfl ?_ ⟨rfl, rfl⟩; rotate_left; (repeat (first | exact trivial | refine ⟨rfl, ?_⟩)); (first | exact Nat.le_refl _ | decide | (dsimp only; omega)); (simp (disch := omega) only [LeT, updL, st, reduceCtorEq, true_or, or_true, false_or, and_true, true_and, SV.c.injEq, SC.v.injEq, Value.int.injEq, Value.slice.injEq, wrap_in, Int.natCast_add, Int.natCast_one, Int.natCast_zero, Int.cast_ofNat_Int]) <;> (try (repeat' constructor)) <;> (first | rfl | omega))
  · rintro ⟨k, t, r, put, got, pcs, gcs, pA, pC, gA, gC, qA, qC, jA, jC, y⟩ ⟨⟨hy, hI, hpE, hgE, hpC, hgC, hq, hj⟩, hk, hpk, hq0⟩
    dsimp only at *
    ((try simp only [seval, go_sem]); repeat ((first | with_reducible refine vsI.id ?_ | with_reducible refine vcI_cond ?_); (try simp only [seval, go_sem])))
    (with_reducible refine condI.split (fun hg => ?_) (fun hg => ?_) <;> (try simp only [hg]) <;> (try simp only [seval, go_sem]))
    · have hk' : k < evs.length := by have := of_decide_eq_true hg; omega
      obtain ⟨x, hx⟩ : ∃ x, evs[k]? = some x := ⟨_, List.getElem?_eq_getElem hk'⟩
      obtain ⟨_, ⟨s1, rfl, hs1⟩, hra⟩ := (hEe.mono hy).at (hEr.mono hy) hx
      obtain ⟨sA, sC, rfl, hsC, hsB, hsr⟩ := hs1.form
      have hsd := (hev x (List.mem_of_getElem? hx)).2.2
      ((try simp only [seval, go_sem]); repeat ((first | with_reducible refine vsI.id ?_ | with_reducible refine vcI_cond ?_); (try simp only [seval, go_sem])))
      (refine ⟨⟨by omega, by omega, (hEe.mono hy).isAt (hEr.mono hy) (by decide) hk'⟩, ?_⟩; (try simp only [seval, go_sem]))
      (refine ldF.one _ (by first | exact .inl (hra.cell 0 rfl) | exact (hra.cell 0 rfl)) ?_; (try simp only [seval, go_sem]))
      ((try simp only [seval, go_sem]); repeat ((first | with_reducible refine vsI.id ?_ | with_reducible refine vcI_cond ?_); (try simp only [seval, go_sem])))
      (with_reducible refine condI.split (fun hg => ?_) (fun hg => ?_) <;> (try simp only [hg]) <;> (try simp only [seval, go_sem]))
      · ((try simp only [seval, go_sem]); repeat ((first | with_reducible refine vsI.id ?_ | with_reducible refine vcI_cond ?_); (try simp only [seval, go_sem])))
        refine ⟨⟨k + 1, t, r, put, got, pcs, gcs, pA, pC, gA, gC, qA, qC, jA, jC, y⟩, ⟨⟨hy, hI, hpE, hgE, hpC, hgC, hq, hj⟩, by dsimp only; omega, by dsimp only; omega, hq0⟩, by dsimp only; omega, ?_⟩
        (refine Le.of ?_ ?_ rfl ?_ ⟨rfl, rfl⟩; rotate_left; (simp only [LeL, look, del, Nat.reduceEqDiff, reduceCtorEq, if_true, if_false, reduceIte, Nat.succ_ne_self, and_true, true_and, and_self]); (first | exact Nat.le_refl _ | decide | (dsimp only; omega)); (simp (disch := omega) only [LeT, updL, st, reduceCtorEq, true_or, or_true, false_or, and_true, true_and, SV.c.injEq, SC.v.injEq, Value.int.injEq, Value.slice.injEq, wrap_in, Int.natCast_add, Int.natCast_one, Int.natCast_zero, Int.cast_ofNat_Int]) <;> (try (repeat' constructor)) <;> (first | rfl | omega))
      · ((try simp only [seval, go_sem]); repeat ((first | with_reducible refine vsI.id ?_ | with_reducible refine vcI_cond ?_); (try simp only [seval, go_sem])))
        have hput := hI.put x.data hq0
        refine joinV.le (ι := Option Addr × Nat × Zc) (fun i => y ≤ i.2.2 ∧ Sl pRep i.2.2 (crdPutG c t x.data).1.queue (.slice i.1 (crdPutG c t x.data).1.queue.length i.2.1)) [46, 47, 48, 49, 50, 51, 52, 53, 45, 54, 55, 10, 11] (fun i => [(10, .c (.p 5 0)), (11, .c (.v (.bool (crdPutG c t x.data).2)))])
          (fun i => [(90, .own (rowA tyS 1 (.slice pA put.length pC) put.length pcs)), (91, .own (rowA tyS 1 (.slice gA got.length gC) got.length gcs)), (0, .cells 24 (c5 c)), (1, .cells 30 [.v (.int .i64 t.hav), .v (.slice qA t.queue.length qC), .v (.int .i64 t.granted), .v (.int .i64 t.sent), .v (.bool t.dead)]), (2, .cells 34 [.v (.int .i64 r.out), .v (.int .i64 r.join.len), .v (.slice jA r.join.got.length jC), .v (.bool r.dead)]), (5, .cells 30 [.v (.int .i64 (crdPutG c t x.data).1.hav), .v (.slice i.1 (crdPutG c t x.data).1.queue.length i.2.1), .v (.int .i64 (crdPutG c t x.data).1.granted), .v (.int .i64 (crdPutG c t x.data).1.sent), .v (.bool (crdPutG c t x.data).1.dead)])]) (fun i => i.2.2) 6 (by simp only [anyL, st]; exact rfl) ?_ ?_
        · simp only [seval, go_sem]
          (refine ⟨⟨by omega, by omega, (hEe.mono hy).isAt (hEr.mono hy) (by decide) hk'⟩, ?_⟩; (try simp only [seval, go_sem]))
          (refine ldF.one _ (by first | exact .inl (hra.cell 4 rfl) | exact (hra.cell 4 rfl)) ?_; (try simp only [seval, go_sem]))
          refine ⟨?_, ?_⟩
          all_goals
            (try with_reducible refine callM.toT ?_); refine callP (crdput_i c t x.data (.slice qA t.queue.length qC) (.slice sA x.data.length sC) y hq (by rw [hq0]; decide) (fun p hp => by rw [hq0] at hp; cases hp) hs1 (by omega)) rfl rfl ?_; rintro u z2 hz2 ⟨_, rfl, ⟨A2, k2, cs2, rfl, hk2, he2, hr2⟩⟩; (try simp only [seval, go_sem]); ((try simp only [seval, go_sem]); repeat ((first | with_reducible refine vsI.id ?_ | with_reducible refine vcI_cond ?_); (try simp only [seval, go_sem])))
          all_goals refine ⟨(A2, k2, z2), ⟨hz2, ⟨A2, k2, cs2, rfl, hk2, he2, hr2⟩⟩, ?_⟩
          all_goals (refine Le.of ?_ ?_ rfl ?_ ⟨rfl, rfl⟩; rotate_left; (simp only [LeL, look, del, Nat.reduceEqDiff, reduceCtorEq, if_true, if_false, reduceIte, Nat.succ_ne_self, and_true, true_and, and_self]); (first | exact Nat.le_refl _ | decide | (dsimp only; omega)); (simp (disch := omega) only [LeT, updL, st, reduceCtorEq, true_or, or_true, false_or, and_true, true_and, SV.c.injEq, SC.v.injEq, Value.int.injEq, Value.slice.injEq, wrap_in, Int.natCast_add, Int.natCast_one, Int.natCast_zero, Int.cast_ofNat_Int]) <;> (try (repeat' constructor)) <;> (first | rfl | omega))
        · rintro ⟨A2, k2, z2⟩ ⟨hz2, hq2⟩
          dsimp only at *
          obtain ⟨hI', h24⟩ := hput
          generalize hcp : crdPutG c t x.data = tp at *
          obtain ⟨t', ok⟩ := tp
          dsimp only at *
          cases ok with
          | true =>
            simp only [seval, go_sem]
            ((try simp only [seval, go_sem]); repeat ((first | with_reducible refine vsI.id ?_ | with_reducible refine vcI_cond ?_); (try simp only [seval, go_sem])))
            (refine ⟨⟨by omega, by omega, (hEe.mono (Zc.trans' hy hz2)).isAt (hEr.mono (Zc.trans' hy hz2)) (by decide) hk'⟩, ?_⟩; (try simp only [seval, go_sem]))
            (refine ldF.one _ (by first | exact .inl ((hra.mono hz2).cell 4 rfl) | exact ((hra.mono hz2).cell 4 rfl)) ?_; (try simp only [seval, go_sem]))
            ((try simp only [seval, go_sem]); repeat ((first | with_reducible refine vsI.id ?_ | with_reducible refine vcI_cond ?_); (try simp only [seval, go_sem])))
            (try with_reducible refine appM.toT ?_); (refine appM_newF 90 atyS rfl rfl rfl rfl rfl rfl rfl (by simp [Value.oneCell']) (by omega) (fun A6 c6 hc6 hat6 => ?_)); simp only [seval, go_sem]; ((try simp only [seval, go_sem]); repeat ((first | with_reducible refine vsI.id ?_ | with_reducible refine vcI_cond ?_); (try simp only [seval, go_sem])))
            simp only [if_true] at hI'
            have hPE : Els sduRep z2 (put ++ [x.data]) (pcs ++ [.slice sA x.data.length sC]) := Els.append (hpE.mono hz2) (Els.single ⟨_, rfl, hs1.mono hz2⟩)
            have hPl : (put ++ [x.data]).length = put.length + 1 := by simp
            rw [← hPl] at hc6
            have hPk : (put ++ [x.data]).length ≤ k + 1 := by omega
            simp only [← hPl]
            generalize put ++ [x.data] = P at *
            generalize pcs ++ [Value.slice sA x.data.length sC] = PCS at *
            refine loop_upd (ι := LinS) (n := 7) (fun s => LinM z2 c s ∧ s.k + s.t.queue.length ≤ 24 ∧ s.put.length ≤ k + 1) (fun s => [(12, .c (.v (.int .i64 s.k))), (7, .c (.v (.slice s.pA s.put.length s.pC))), (8, .c (.v (.slice s.gA s.got.length s.gC)))])
              (fun s => [(90, .own (rowA tyS 1 (.slice s.pA s.put.length s.pC) s.put.length s.pcs)), (91, .own (rowA tyS 1 (.slice s.gA s.got.length s.gC) s.got.length s.gcs)), (0, .cells 24 (c5 c)), (1, .cells 30 [.v (.int .i64 s.t.hav), .v (.slice s.qA s.t.queue.length s.qC), .v (.int .i64 s.t.granted), .v (.int .i64 s.t.sent), .v (.bool s.t.dead)]), (2, .cells 34 [.v (.int .i64 s.r.out), .v (.int .i64 s.r.join.len), .v (.slice s.jA s.r.join.got.length s.jC), .v (.bool s.r.dead)])])
              (fun s => s.z) (fun s => 24 - s.k) ⟨0, t', r, P, got, PCS, gcs, A6, c6, gA, gC, A2, k2, jA, jC, z2⟩ ⟨⟨Zc.rfl' _, hI', hPE, hgE.mono hz2, hc6, hgC, hq2, hj.mono hz2⟩, by dsimp only; omega, hPk⟩ (by (simp only [wrI, wrR, anyL, st, List.append_nil, List.nil_append, List.cons_append]); exact rfl) ?_ ?_
            · (refine Le.of ?_ ?_ rfl ?_ ⟨rfl, rfl⟩; rotate_left; (repeat (first | exact trivial | refine ⟨rfl, ?_⟩)); (first | exact Nat.le_refl _ | decide | (dsimp only; omega)); (simp (disch := omega) only [LeT, updL, st, reduceCtorEq, true_or, or_true, false_or, and_true, true_and, SV.c.injEq, SC.v.injEq, Value.int.injEq, Value.slice.injEq, wrap_in, Int.natCast_add, Int.natCast_one, Int.natCast_zero, Int.cast_ofNat_Int]) <;> (try (repeat' constructor)) <;> (first | rfl | omega))
            · clear hI' hPE hc6 hPk hq2 h24 hcp hgE hgC hj hq hpE hpC hI hpk
              rintro ⟨n, t, r, P, got, PCS, gcs, A6, c6, gA, gC, qA, qC, jA, jC, w⟩ ⟨⟨hw, hI, hPE, hgE, hc6, hgC, hq, hj⟩, hn, hPk⟩
              dsimp only at *
              have hn40 : decide ((n : Int) < 40) = true := decide_eq_true (by omega)
              have hgl := hI.got
              have hjl := hI.rx.2.le
              have hjn : 0 ≤ r.join.len := by rcases hI.rx.2 with h | h <;> omega
              ((try simp only [seval, go_sem]); repeat ((first | with_reducible refine vsI.id ?_ | with_reducible refine vcI_cond ?_); (try simp only [seval, go_sem])))
              simp only [seval, go_sem, hn40]
              ((try simp only [seval, go_sem]); repeat ((first | with_reducible refine vsI.id ?_ | with_reducible refine vcI_cond ?_); (try simp only [seval, go_sem])))
              (with_reducible refine condI.split (fun hg => ?_) (fun hg => ?_) <;> (try simp only [hg]) <;> (try simp only [seval, go_sem]))
              · have hq1 : 0 < t.queue.length := by have := of_decide_eq_true hg; omega
                obtain ⟨p, q, hpq⟩ : ∃ p q, t.queue = p :: q := List.exists_cons_of_length_pos hq1
                have hsm : ∀ p ∈ t.queue, p.data.length ≤ 1000000000 := fun p hp => by have := hI.tx.small p hp; omega
                have hql : t.queue.length = q.length + 1 := by rw [hpq]; rfl
                have hqm := hI.tx.queue
                ((try simp only [seval, go_sem]); repeat ((first | with_reducible refine vsI.id ?_ | with_reducible refine vcI_cond ?_); (try simp only [seval, go_sem])))
                (with_reducible refine condI.split (fun hg => ?_) (fun hg => ?_) <;> (try simp only [hg]) <;> (try simp only [seval, go_sem]))
                · have h0 : t.hav = 0 := by simpa using hg
                  obtain ⟨t1, r1, g1, g2, hI1, hh1, hqq⟩ := hI.grant' h0 (by omega)
                  have hcg := crdgrant_i r (.slice jA r.join.got.length jC) w hj (by omega) (by omega)
                  rw [g1] at hcg
                  simp only [SayV, Option.getD_some, Option.isSome_some] at hcg
                  ((try simp only [seval, go_sem]); repeat ((first | with_reducible refine vsI.id ?_ | with_reducible refine vcI_cond ?_); (try simp only [seval, go_sem])))
                  (try with_reducible refine callM.toT ?_); refine callP (hcg) rfl rfl ?_; rintro u w1 hw1 ⟨_, _, _, rfl, ⟨jA1, jC1, jcs, rfl, hjc1, hje1, hjr1⟩, ⟨_, rfl, ⟨xA, xC, xcs, rfl, hxc, hxe, hxr⟩, rfl⟩⟩; (try simp only [seval, go_sem]); ((try simp only [seval, go_sem]); repeat ((first | with_reducible refine vsI.id ?_ | with_reducible refine vcI_cond ?_); (try simp only [seval, go_sem])))
                  have hct := crdtake_i c t 6 (.slice qA t.queue.length qC) w1 (hq.mono hw1) (by omega) hsm
                  rw [g2] at hct
                  (try with_reducible refine callM.toT ?_); refine callP (hct) rfl rfl ?_; rintro u w2 hw2 ⟨_, rfl, ⟨qA1, qC1, qcs, rfl, hqc1, hqe1, hqr1⟩⟩; (try simp only [seval, go_sem]); ((try simp only [seval, go_sem]); repeat ((first | with_reducible refine vsI.id ?_ | with_reducible refine vcI_cond ?_); (try simp only [seval, go_sem])))
                  have hQ : Sl pRep w2 t1.queue (.slice qA1 t1.queue.length qC1) := ⟨qA1, qC1, qcs, rfl, hqc1, hqe1, hqr1⟩
                  have hJ : By w2 r1.join.got (.slice jA1 r1.join.got.length jC1) := ⟨jA1, jC1, jcs, rfl, hjc1, hje1.mono hw2, hjr1.mono hw2⟩
                  have hw02 := Zc.trans' hw1 hw2
                  rw [← hqq] at hpq
                  have hsm1 : ∀ p ∈ t1.queue, p.data.length ≤ 1000000000 := fun p hp => by have := hI1.tx.small p hp; omega
                  obtain ⟨t2, f, r2, sd, g3, g4, hI2, hqq2, hsd1, hf8⟩ := hI1.send' hh1 (by omega) hpq
                  have hjl1 := hI1.rx.2.le
                  have hjn1 : 0 ≤ r1.join.len := by rcases hI1.rx.2 with h | h <;> omega
                  have hcs := crdsend_i c t1 (.slice qA1 t1.queue.length qC1) w2 hQ (by rw [hpq, List.length_cons]; omega) hsm1
                  rw [g3] at hcs
                  simp only [SayV, Option.getD_some, Option.isSome_some] at hcs
                  (try with_reducible refine callM.toT ?_); refine callP (hcs) rfl rfl ?_; rintro u w3 hw3 ⟨_, _, _, rfl, ⟨qA2, qC2, qcs2, rfl, hqc2, hqe2, hqr2⟩, ⟨_, rfl, ⟨xA, xC, xcs, rfl, hxc, hxe, hxr⟩, rfl⟩⟩; (try simp only [seval, go_sem]); ((try simp only [seval, go_sem]); repeat ((first | with_reducible refine vsI.id ?_ | with_reducible refine vcI_cond ?_); (try simp only [seval, go_sem])))
                  have hch := crdhear_i c r1 f (.slice jA1 r1.join.got.length jC1) (.slice xA f.data.length xC) w3 (hJ.mono hw3) ⟨xA, xC, xcs, rfl, hxc, hxe, hxr⟩ (by omega) (by omega) (by omega)
                  rw [g4] at hch
                  (try with_reducible refine callM.toT ?_); refine callP (hch) rfl rfl ?_; rintro u w4 hw4 ⟨_, _, rfl, ⟨jA2, jC2, jcs2, rfl, hjc2, hje2, hjr2⟩, ⟨sA2, sC2, scs2, rfl, hsc2, hse2, hsr2⟩⟩; (try simp only [seval, go_sem]); ((try simp only [seval, go_sem]); repeat ((first | with_reducible refine vsI.id ?_ | with_reducible refine vcI_cond ?_); (try simp only [seval, go_sem])))
                  have hsl : scs2.length = sd.length * 1 := hse2.length
                  (try with_reducible refine appM.toT ?_); (refine appM_rowF 91 atyS rfl rfl rfl rfl hsr2 (by first | omega | simp) (hse2.one) (by omega) (fun A9 c9 hc9 => ?_)); simp only [seval, go_sem]; ((try simp only [seval, go_sem]); repeat ((first | with_reducible refine vsI.id ?_ | with_reducible refine vcI_cond ?_); (try simp only [seval, go_sem])))
                  have hww : w ≤ w4 := Zc.trans' hw02 (Zc.trans' hw3 hw4)
                  refine ⟨⟨n + 1, t2, r2, P, got ++ sd, PCS, gcs ++ scs2, A6, c6, A9, c9, qA2, qC2, jA2, jC2, w4⟩, ⟨⟨Zc.trans' hw hww, hI2, hPE.mono hww, Els.append (hgE.mono hww) hse2, hc6, by rw [List.length_append]; exact hc9, ⟨qA2, qC2, qcs2, rfl, hqc2, hqe2.mono hw4, hqr2.mono hw4⟩, ⟨jA2, jC2, jcs2, rfl, hjc2, hje2, hjr2⟩⟩, by dsimp only; rw [hqq2]; omega, hPk⟩, by dsimp only; omega, ?_⟩
                  simp only [List.length_append]
                  (refine Le.of ?_ ?_ rfl ?_ ⟨rfl, rfl⟩; rotate_left; (simp only [LeL, look, del, Nat.reduceEqDiff, reduceCtorEq, if_true, if_false, reduceIte, Nat.succ_ne_self, and_true, true_and, and_self]); (first | exact Nat.le_refl _ | decide | (dsimp only; omega)); (simp (disch := omega) only [LeT, updL, st, reduceCtorEq, true_or, or_true, false_or, and_true, true_and, SV.c.injEq, SC.v.injEq, Value.int.injEq, Value.slice.injEq, wrap_in, Int.natCast_add, Int.natCast_one, Int.natCast_zero, Int.cast_ofNat_Int]) <;> (try (repeat' constructor)) <;> (first | rfl | omega))
                · have hh1 : t.hav ≠ 0 := by simpa using hg
                  ((try simp only [seval, go_sem]); repeat ((first | with_reducible refine vsI.id ?_ | with_reducible refine vcI_cond ?_); (try simp only [seval, go_sem])))
                  obtain ⟨t1, rfl⟩ : ∃ P, P = t := ⟨_, rfl⟩
                  obtain ⟨r1, rfl⟩ : ∃ P, P = r := ⟨_, rfl⟩
                  obtain ⟨qA1, rfl⟩ : ∃ P, P = qA := ⟨_, rfl⟩
                  obtain ⟨qC1, rfl⟩ : ∃ P, P = qC := ⟨_, rfl⟩
                  obtain ⟨jA1, rfl⟩ : ∃ P, P = jA := ⟨_, rfl⟩
                  obtain ⟨jC1, rfl⟩ : ∃ P, P = jC := ⟨_, rfl⟩
                  obtain ⟨w2, hw2e⟩ : ∃ P, P = w := ⟨_, rfl⟩
                  have hw02 : w ≤ w2 := by rw [hw2e]; exact Zc.rfl' _
                  rw [← hw2e]
                  have hQ := hq.mono hw02
                  have hJ := hj.mono hw02
                  have hI1 := hI
                  have hsm1 := hsm
                  obtain ⟨t2, f, r2, sd, g3, g4, hI2, hqq2, hsd1, hf8⟩ := hI1.send' hh1 (by omega) hpq
                  have hjl1 := hI1.rx.2.le
                  have hjn1 : 0 ≤ r1.join.len := by rcases hI1.rx.2 with h | h <;> omega
                  have hcs := crdsend_i c t1 (.slice qA1 t1.queue.length qC1) w2 hQ (by rw [hpq, List.length_cons]; omega) hsm1
                  rw [g3] at hcs
                  simp only [SayV, Option.getD_some, Option.isSome_some] at hcs
                  (try with_reducible refine callM.toT ?_); refine callP (hcs) rfl rfl ?_; rintro u w3 hw3 ⟨_, _, _, rfl, ⟨qA2, qC2, qcs2, rfl, hqc2, hqe2, hqr2⟩, ⟨_, rfl, ⟨xA, xC, xcs, rfl, hxc, hxe, hxr⟩, rfl⟩⟩; (try simp only [seval, go_sem]); ((try simp only [seval, go_sem]); repeat ((first | with_reducible refine vsI.id ?_ | with_reducible refine vcI_cond ?_); (try simp only [seval, go_sem])))
                  have hch := crdhear_i c r1 f (.slice jA1 r1.join.got.length jC1) (.slice xA f.data.length xC) w3 (hJ.mono hw3) ⟨xA, xC, xcs, rfl, hxc, hxe, hxr⟩ (by omega) (by omega) (by omega)
                  rw [g4] at hch
                  (try with_reducible refine callM.toT ?_); refine callP (hch) rfl rfl ?_; rintro u w4 hw4 ⟨_, _, rfl, ⟨jA2, jC2, jcs2, rfl, hjc2, hje2, hjr2⟩, ⟨sA2, sC2, scs2, rfl, hsc2, hse2, hsr2⟩⟩; (try simp only [seval, go_sem]); ((try simp only [seval, go_sem]); repeat ((first | with_reducible refine vsI.id ?_ | with_reducible refine vcI_cond ?_); (try simp only [seval, go_sem])))
                  have hsl : scs2.length = sd.length * 1 := hse2.length
                  (try with_reducible refine appM.toT ?_); (refine appM_rowF 91 atyS rfl rfl rfl rfl hsr2 (by first | omega | simp) (hse2.one) (by omega) (fun A9 c9 hc9 => ?_)); simp only [seval, go_sem]; ((try simp only [seval, go_sem]); repeat ((first | with_reducible refine vsI.id ?_ | with_reducible refine vcI_cond ?_); (try simp only [seval, go_sem])))
                  have hww : w ≤ w4 := Zc.trans' hw02 (Zc.trans' hw3 hw4)
                  refine ⟨⟨n + 1, t2, r2, P, got ++ sd, PCS, gcs ++ scs2, A6, c6, A9, c9, qA2, qC2, jA2, jC2, w4⟩, ⟨⟨Zc.trans' hw hww, hI2, hPE.mono hww, Els.append (hgE.mono hww) hse2, hc6, by rw [List.length_append]; exact hc9, ⟨qA2, qC2, qcs2, rfl, hqc2, hqe2.mono hw4, hqr2.mono hw4⟩, ⟨jA2, jC2, jcs2, rfl, hjc2, hje2, hjr2⟩⟩, by dsimp only; rw [hqq2]; omega, hPk⟩, by dsimp only; omega, ?_⟩
                  simp only [List.length_append]
                  (refine Le.of ?_ ?_ rfl ?_ ⟨rfl, rfl⟩; rotate_left; (simp only [LeL, look, del, Nat.reduceEqDiff, reduceCtorEq, if_true, if_false, reduceIte, Nat.succ_ne_self, and_true, true_and, and_self]); (first | exact Nat.le_refl _ | decide | (dsimp only; omega)); (simp (disch := omega) only [LeT, updL, st, reduceCtorEq, true_or, or_true, false_or, and_true, true_and, SV.c.injEq, SC.v.injEq, Value.int.injEq, Value.slice.injEq, wrap_in, Int.natCast_add, Int.natCast_one, Int.natCast_zero, Int.cast_ofNat_Int]) <;> (try (repeat' constructor)) <;> (first | rfl | omega))
              · have hq1 : t.queue = [] := List.eq_nil_of_length_eq_zero (by have := of_decide_eq_false hg; omega)
                ((try simp only [seval, go_sem]); repeat ((first | with_reducible refine vsI.id ?_ | with_reducible refine vcI_cond ?_); (try simp only [seval, go_sem])))
                refine ⟨⟨k + 1, t, r, P, got, PCS, gcs, A6, c6, gA, gC, qA, qC, jA, jC, w⟩, ⟨⟨Zc.trans' hy (Zc.trans' hz2 hw), hI, hPE, hgE, hc6, hgC, hq, hj⟩, by dsimp only; omega, hPk, hq1⟩, by dsimp only; omega, ?_⟩
                (refine Le.of ?_ ?_ rfl ?_ ⟨rfl, rfl⟩; rotate_left; (simp only [LeL, look, del, Nat.reduceEqDiff, reduceCtorEq, if_true, if_false, reduceIte, Nat.succ_ne_self, and_true, true_and, and_self]); (first | exact Nat.le_refl _ | decide | (dsimp only; omega)); (simp (disch := omega) only [LeT, updL, st, reduceCtorEq, true_or, or_true, false_or, and_true, true_and, SV.c.injEq, SC.v.injEq, Value.int.injEq, Value.slice.injEq, wrap_in, Int.natCast_add, Int.natCast_one, Int.natCast_zero, Int.cast_ofNat_Int]) <;> (try (repeat' constructor)) <;> (first | rfl | omega))
          | false =>
            simp only [seval, go_sem]
            ((try simp only [seval, go_sem]); repeat ((first | with_reducible refine vsI.id ?_ | with_reducible refine vcI_cond ?_); (try simp only [seval, go_sem])))
            simp only [Bool.false_eq_true, if_false] at hI'
            have hPE := hpE.mono hz2
            have hPk : put.length ≤ k + 1 := by omega
            obtain ⟨P, rfl⟩ : ∃ P, P = put := ⟨_, rfl⟩
            obtain ⟨PCS, rfl⟩ : ∃ P, P = pcs := ⟨_, rfl⟩
            obtain ⟨A6, rfl⟩ : ∃ P, P = pA := ⟨_, rfl⟩
            obtain ⟨c6, rfl⟩ : ∃ P, P = pC := ⟨_, rfl⟩
            have hc6 := hpC
            refine loop_upd (ι := LinS) (n := 6) (fun s => LinM z2 c s ∧ s.k + s.t.queue.length ≤ 24 ∧ s.put.length ≤ k + 1) (fun s => [(12, .c (.v (.int .i64 s.k))), (7, .c (.v (.slice s.pA s.put.length s.pC))), (8, .c (.v (.slice s.gA s.got.length s.gC)))])
              (fun s => [(90, .own (rowA tyS 1 (.slice s.pA s.put.length s.pC) s.put.length s.pcs)), (91, .own (rowA tyS 1 (.slice s.gA s.got.length s.gC) s.got.length s.gcs)), (0, .cells 24 (c5 c)), (1, .cells 30 [.v (.int .i64 s.t.hav), .v (.slice s.qA s.t.queue.length s.qC), .v (.int .i64 s.t.granted), .v (.int .i64 s.t.sent), .v (.bool s.t.dead)]), (2, .cells 34 [.v (.int .i64 s.r.out), .v (.int .i64 s.r.join.len), .v (.slice s.jA s.r.join.got.length s.jC), .v (.bool s.r.dead)])])
              (fun s => s.z) (fun s => 24 - s.k) ⟨0, t', r, P, got, PCS, gcs, A6, c6, gA, gC, A2, k2, jA, jC, z2⟩ ⟨⟨Zc.rfl' _, hI', hPE, hgE.mono hz2, hc6, hgC, hq2, hj.mono hz2⟩, by dsimp only; omega, hPk⟩ (by (simp only [wrI, wrR, anyL, st, List.append_nil, List.nil_append, List.cons_append]); exact rfl) ?_ ?_
            · (refine Le.of ?_ ?_ rfl ?_ ⟨rfl, rfl⟩; rotate_left; (repeat (first | exact trivial | refine ⟨rfl, ?_⟩)); (first | exact Nat.le_refl _ | decide | (dsimp only; omega)); (simp (disch := omega) only [LeT, updL, st, reduceCtorEq, true_or, or_true, false_or, and_true, true_and, SV.c.injEq, SC.v.injEq, Value.int.injEq, Value.slice.injEq, wrap_in, Int.natCast_add, Int.natCast_one, Int.natCast_zero, Int.cast_ofNat_Int]) <;> (try (repeat' constructor)) <;> (first | rfl | omega))
            · clear hI' hPE hc6 hPk hq2 h24 hcp hgE hgC hj hq hpE hpC hI hpk
              rintro ⟨n, t, r, P, got, PCS, gcs, A6, c6, gA, gC, qA, qC, jA, jC, w⟩ ⟨⟨hw, hI, hPE, hgE, hc6, hgC, hq, hj⟩, hn, hPk⟩
              dsimp only at *
              have hn40 : decide ((n : Int) < 40) = true := decide_eq_true (by omega)
              have hgl := hI.got
              have hjl := hI.rx.2.le
              have hjn : 0 ≤ r.join.len := by rcases hI.rx.2 with h | h <;> omega
              ((try simp only [seval, go_sem]); repeat ((first | with_reducible refine vsI.id ?_ | with_reducible refine vcI_cond ?_); (try simp only [seval, go_sem])))
              simp only [seval, go_sem, hn40]
              ((try simp only [seval, go_sem]); repeat ((first | with_reducible refine vsI.id ?_ | with_reducible refine vcI_cond ?_); (try simp only [seval, go_sem])))
              (with_reducible refine condI.split (fun hg => ?_) (fun hg => ?_) <;> (try simp only [hg]) <;> (try simp only [seval, go_sem]))
              · have hq1 : 0 < t.queue.length := by have := of_decide_eq_true hg; omega
                obtain ⟨p, q, hpq⟩ : ∃ p q, t.queue = p :: q := List.exists_cons_of_length_pos hq1
                have hsm : ∀ p ∈ t.queue, p.data.length ≤ 1000000000 := fun p hp => by have := hI.tx.small p hp; omega
                have hql : t.queue.length = q.length + 1 := by rw [hpq]; rfl
                have hqm := hI.tx.queue
                ((try simp only [seval, go_sem]); repeat ((first | with_reducible refine vsI.id ?_ | with_reducible refine vcI_cond ?_); (try simp only [seval, go_sem])))
                (with_reducible refine condI.split (fun hg => ?_) (fun hg => ?_) <;> (try simp only [hg]) <;> (try simp only [seval, go_sem]))
                · have h0 : t.hav = 0 := by simpa using hg
                  obtain ⟨t1, r1, g1, g2, hI1, hh1, hqq⟩ := hI.grant' h0 (by omega)
                  have hcg := crdgrant_i r (.slice jA r.join.got.length jC) w hj (by omega) (by omega)
                  rw [g1] at hcg
                  simp only [SayV, Option.getD_some, Option.isSome_some] at hcg
                  ((try simp only [seval, go_sem]); repeat ((first | with_reducible refine vsI.id ?_ | with_reducible refine vcI_cond ?_); (try simp only [seval, go_sem])))
                  (try with_reducible refine callM.toT ?_); refine callP (hcg) rfl rfl ?_; rintro u w1 hw1 ⟨_, _, _, rfl, ⟨jA1, jC1, jcs, rfl, hjc1, hje1, hjr1⟩, ⟨_, rfl, ⟨xA, xC, xcs, rfl, hxc, hxe, hxr⟩, rfl⟩⟩; (try simp only [seval, go_sem]); ((try simp only [seval, go_sem]); repeat ((first | with_reducible refine vsI.id ?_ | with_reducible refine vcI_cond ?_); (try simp only [seval, go_sem])))
                  have hct := crdtake_i c t 6 (.slice qA t.queue.length qC) w1 (hq.mono hw1) (by omega) hsm
                  rw [g2] at hct
                  (try with_reducible refine callM.toT ?_); refine callP (hct) rfl rfl ?_; rintro u w2 hw2 ⟨_, rfl, ⟨qA1, qC1, qcs, rfl, hqc1, hqe1, hqr1⟩⟩; (try simp only [seval, go_sem]); ((try simp only [seval, go_sem]); repeat ((first | with_reducible refine vsI.id ?_ | with_reducible refine vcI_cond ?_); (try simp only [seval, go_sem])))
                  have hQ : Sl pRep w2 t1.queue (.slice qA1 t1.queue.length qC1) := ⟨qA1, qC1, qcs, rfl, hqc1, hqe1, hqr1⟩
                  have hJ : By w2 r1.join.got (.slice jA1 r1.join.got.length jC1) := ⟨jA1, jC1, jcs, rfl, hjc1, hje1.mono hw2, hjr1.mono hw2⟩
                  have hw02 := Zc.trans' hw1 hw2
                  rw [← hqq] at hpq
                  have hsm1 : ∀ p ∈ t1.queue, p.data.length ≤ 1000000000 := fun p hp => by have := hI1.tx.small p hp; omega
                  obtain ⟨t2, f, r2, sd, g3, g4, hI2, hqq2, hsd1, hf8⟩ := hI1.send' hh1 (by omega) hpq
                  have hjl1 := hI1.rx.2.le
                  have hjn1 : 0 ≤ r1.join.len := by rcases hI1.rx.2 with h | h <;> omega
                  have hcs := crdsend_i c t1 (.slice qA1 t1.queue.length qC1) w2 hQ (by rw [hpq, List.length_cons]; omega) hsm1
                  rw [g3] at hcs
                  simp only [SayV, Option.getD_some, Option.isSome_some] at hcs
                  (try with_reducible refine callM.toT ?_); refine callP (hcs) rfl rfl ?_; rintro u w3 hw3 ⟨_, _, _, rfl, ⟨qA2, qC2, qcs2, rfl, hqc2, hqe2, hqr2⟩, ⟨_, rfl, ⟨xA, xC, xcs, rfl, hxc, hxe, hxr⟩, rfl⟩⟩; (try simp only [seval, go_sem]); ((try simp only [seval, go_sem]); repeat ((first | with_reducible refine vsI.id ?_ | with_reducible refine vcI_cond ?_); (try simp only [seval, go_sem])))
                  have hch := crdhear_i c r1 f (.slice jA1 r1.join.got.length jC1) (.slice xA f.data.length xC) w3 (hJ.mono hw3) ⟨xA, xC, xcs, rfl, hxc, hxe, hxr⟩ (by omega) (by omega) (by omega)
                  rw [g4] at hch
                  (try with_reducible refine callM.toT ?_); refine callP (hch) rfl rfl ?_; rintro u w4 hw4 ⟨_, _, rfl, ⟨jA2, jC2, jcs2, rfl, hjc2, hje2, hjr2⟩, ⟨sA2, sC2, scs2, rfl, hsc2, hse2, hsr2⟩⟩; (try simp only [seval, go_sem]); ((try simp only [seval, go_sem]); repeat ((first | with_reducible refine vsI.id ?_ | with_reducible refine vcI_cond ?_); (try simp only [seval, go_sem])))
                  have hsl : scs2.length = sd.length * 1 := hse2.length
                  (try with_reducible refine appM.toT ?_); (refine appM_rowF 91 atyS rfl rfl rfl rfl hsr2 (by first | omega | simp) (hse2.one) (by omega) (fun A9 c9 hc9 => ?_)); simp only [seval, go_sem]; ((try simp only [seval, go_sem]); repeat ((first | with_reducible refine vsI.id ?_ | with_reducible refine vcI_cond ?_); (try simp only [seval, go_sem])))
                  have hww : w ≤ w4 := Zc.trans' hw02 (Zc.trans' hw3 hw4)
                  refine ⟨⟨n + 1, t2, r2, P, got ++ sd, PCS, gcs ++ scs2, A6, c6, A9, c9, qA2, qC2, jA2, jC2, w4⟩, ⟨⟨Zc.trans' hw hww, hI2, hPE.mono hww, Els.append (hgE.mono hww) hse2, hc6, by rw [List.length_append]; exact hc9, ⟨qA2, qC2, qcs2, rfl, hqc2, hqe2.mono hw4, hqr2.mono hw4⟩, ⟨jA2, jC2, jcs2, rfl, hjc2, hje2, hjr2⟩⟩, by dsimp only; rw [hqq2]; omega, hPk⟩, by dsimp only; omega, ?_⟩
                  simp only [List.length_append]
                  (refine Le.of ?_ ?_ rfl ?_ ⟨rfl, rfl⟩; rotate_left; (simp only [LeL, look, del, Nat.reduceEqDiff, reduceCtorEq, if_true, if_false, reduceIte, Nat.succ_ne_self, and_true, true_and, and_self]); (first | exact Nat.le_refl _ | decide | (dsimp only; omega)); (simp (disch := omega) only [LeT, updL, st, reduceCtorEq, true_or, or_true, false_or, and_true, true_and, SV.c.injEq, SC.v.injEq, Value.int.injEq, Value.slice.injEq, wrap_in, Int.natCast_add, Int.natCast_one, Int.natCast_zero, Int.cast_ofNat_Int]) <;> (try (repeat' constructor)) <;> (first | rfl | omega))
                · have hh1 : t.hav ≠ 0 := by simpa using hg
                  ((try simp only [seval, go_sem]); repeat ((first | with_reducible refine vsI.id ?_ | with_reducible refine vcI_cond ?_); (try simp only [seval, go_sem])))
                  obtain ⟨t1, rfl⟩ : ∃ P, P = t := ⟨_, rfl⟩
                  obtain ⟨r1, rfl⟩ : ∃ P, P = r := ⟨_, rfl⟩
                  obtain ⟨qA1, rfl⟩ : ∃ P, P = qA := ⟨_, rfl⟩
                  obtain ⟨qC1, rfl⟩ : ∃ P, P = qC := ⟨_, rfl⟩
                  obtain ⟨jA1, rfl⟩ : ∃ P, P = jA := ⟨_, rfl⟩
                  obtain ⟨jC1, rfl⟩ : ∃ P, P = jC := ⟨_, rfl⟩
                  obtain ⟨w2, hw2e⟩ : ∃ P, P = w := ⟨_, rfl⟩
                  have hw02 : w ≤ w2 := by rw [hw2e]; exact Zc.rfl' _
                  rw [← hw2e]
                  have hQ := hq.mono hw02
                  have hJ := hj.mono hw02
                  have hI1 := hI
                  have hsm1 := hsm
                  obtain ⟨t2, f, r2, sd, g3, g4, hI2, hqq2, hsd1, hf8⟩ := hI1.send' hh1 (by omega) hpq
                  have hjl1 := hI1.rx.2.le
                  have hjn1 : 0 ≤ r1.join.len := by rcases hI1.rx.2 with h | h <;> omega
                  have hcs := crdsend_i c t1 (.slice qA1 t1.queue.length qC1) w2 hQ (by rw [hpq, List.length_cons]; omega) hsm1
                  rw [g3] at hcs
                  simp only [SayV, Option.getD_some, Option.isSome_some] at hcs
                  (try with_reducible refine callM.toT ?_); refine callP (hcs) rfl rfl ?_; rintro u w3 hw3 ⟨_, _, _, rfl, ⟨qA2, qC2, qcs2, rfl, hqc2, hqe2, hqr2⟩, ⟨_, rfl, ⟨xA, xC, xcs, rfl, hxc, hxe, hxr⟩, rfl⟩⟩; (try simp only [seval, go_sem]); ((try simp only [seval, go_sem]); repeat ((first | with_reducible refine vsI.id ?_ | with_reducible refine vcI_cond ?_); (try simp only [seval, go_sem])))
                  have hch := crdhear_i c r1 f (.slice jA1 r1.join.got.length jC1) (.slice xA f.data.length xC) w3 (hJ.mono hw3) ⟨xA, xC, xcs, rfl, hxc, hxe, hxr⟩ (by omega) (by omega) (by omega)
                  rw [g4] at hch
                  (try with_reducible refine callM.toT ?_); refine callP (hch) rfl rfl ?_; rintro u w4 hw4 ⟨_, _, rfl, ⟨jA2, jC2, jcs2, rfl, hjc2, hje2, hjr2⟩, ⟨sA2, sC2, scs2, rfl, hsc2, hse2, hsr2⟩⟩; (try simp only [seval, go_sem]); ((try simp only [seval, go_sem]); repeat ((first | with_reducible refine vsI.id ?_ | with_reducible refine vcI_cond ?_); (try simp only [seval, go_sem])))
                  have hsl : scs2.length = sd.length * 1 := hse2.length
                  (try with_reducible refine appM.toT ?_); (refine appM_rowF 91 atyS rfl rfl rfl rfl hsr2 (by first | omega | simp) (hse2.one) (by omega) (fun A9 c9 hc9 => ?_)); simp only [seval, go_sem]; ((try simp only [seval, go_sem]); repeat ((first | with_reducible refine vsI.id ?_ | with_reducible refine vcI_cond ?_); (try simp only [seval, go_sem])))
                  have hww : w ≤ w4 := Zc.trans' hw02 (Zc.trans' hw3 hw4)
                  refine ⟨⟨n + 1, t2, r2, P, got ++ sd, PCS, gcs ++ scs2, A6, c6, A9, c9, qA2, qC2, jA2, jC2, w4⟩, ⟨⟨Zc.trans' hw hww, hI2, hPE.mono hww, Els.append (hgE.mono hww) hse2, hc6, by rw [List.length_append]; exact hc9, ⟨qA2, qC2, qcs2, rfl, hqc2, hqe2.mono hw4, hqr2.mono hw4⟩, ⟨jA2, jC2, jcs2, rfl, hjc2, hje2, hjr2⟩⟩, by dsimp only; rw [hqq2]; omega, hPk⟩, by dsimp only; omega, ?_⟩
                  simp only [List.length_append]
                  (refine Le.of ?_ ?_ rfl ?_ ⟨rfl, rfl⟩; rotate_left; (simp only [LeL, look, del, Nat.reduceEqDiff, reduceCtorEq, if_true, if_false, reduceIte, Nat.succ_ne_self, and_true, true_and, and_self]); (first | exact Nat.le_refl _ | decide | (dsimp only; omega)); (simp (disch := omega) only [LeT, updL, st, reduceCtorEq, true_or, or_true, false_or, and_true, true_and, SV.c.injEq, SC.v.injEq, Value.int.injEq, Value.slice.injEq, wrap_in, Int.natCast_add, Int.natCast_one, Int.natCast_zero, Int.cast_ofNat_Int]) <;> (try (repeat' constructor)) <;> (first | rfl | omega))
              · have hq1 : t.queue = [] := List.eq_nil_of_length_eq_zero (by have := of_decide_eq_false hg; omega)
                ((try simp only [seval, go_sem]); repeat ((first | with_reducible refine vsI.id ?_ | with_reducible refine vcI_cond ?_); (try simp only [seval, go_sem])))
                refine ⟨⟨k + 1, t, r, P, got, PCS, gcs, A6, c6, gA, gC, qA, qC, jA, jC, w⟩, ⟨⟨Zc.trans' hy (Zc.trans' hz2 hw), hI, hPE, hgE, hc6, hgC, hq, hj⟩, by dsimp only; omega, hPk, hq1⟩, by dsimp only; omega, ?_⟩
                (refine Le.of ?_ ?_ rfl ?_ ⟨rfl, rfl⟩; rotate_left; (simp only [LeL, look, del, Nat.reduceEqDiff, reduceCtorEq, if_true, if_false, reduceIte, Nat.succ_ne_self, and_true, true_and, and_self]); (first | exact Nat.le_refl _ | decide | (dsimp only; omega)); (simp (disch := omega) only [LeT, updL, st, reduceCtorEq, true_or, or_true, false_or, and_true, true_and, SV.c.injEq, SC.v.injEq, Value.int.injEq, Value.slice.injEq, wrap_in, Int.natCast_add, Int.natCast_one, Int.natCast_zero, Int.cast_ofNat_Int]) <;> (try (repeat' constructor)) <;> (first | rfl | omega))
    · have hall := hI.all hq0
      have hok := ctxOk_iff.2 hI.tx
      have hrk := crxOk_iff.2 hI.rx
      have hjl := hI.rx.2.le
      have hjn : -1000000000 ≤ r.join.len := by rcases hI.rx.2 with h | h <;> omega
      have hgl := hI.got
      have h24 := hI.m24
      have hg24 : ∀ m ∈ got, m.length ≤ 100000000 := fun m hm => by rw [hall] at hm; have := h24 m hm; omega
      have hp24 : ∀ m ∈ put, m.length ≤ 100000000 := fun m hm => by have := h24 m hm; omega
      (try simp only [seval, go_sem])
      refine vsI.frzR 90 rfl rfl (fun A7 c7 z7 hv7 hc7 hz7 hr7 => ?_)
      injection hv7 with hv_1 hv_2 hv_3
      subst hv_1
      subst hv_3
      simp only [seval, go_sem]
      (refine vsI.frzR 91 rfl rfl (fun A8 c8 z8 hv8 hc8 hz8 hr8 => ?_)); (first | subst hv8 | (injection hv8 with hv_1 hv_2 hv_3; subst hv_1; subst hv_3)); simp only [seval, go_sem]; ((try simp only [seval, go_sem]); repeat ((first | with_reducible refine vsI.id ?_ | with_reducible refine vcI_cond ?_); (try simp only [seval, go_sem])))
      have hz78 := Zc.trans' hz7 hz8
      (try with_reducible refine callM.toT ?_); refine callP (ctxok_i c t (.slice qA t.queue.length qC) z8 (hq.mono hz78) (by rw [hq0]; decide) (fun p hp => by rw [hq0] at hp; cases hp)) rfl rfl ?_; rintro u w1 hw1 rfl; (try simp only [seval, go_sem]); ((try simp only [seval, go_sem]); repeat ((first | with_reducible refine vsI.id ?_ | with_reducible refine vcI_cond ?_); (try simp only [seval, go_sem])))
      simp only [seval, go_sem, hok]
      ((try simp only [seval, go_sem]); repeat ((first | with_reducible refine vsI.id ?_ | with_reducible refine vcI_cond ?_); (try simp only [seval, go_sem])))
      (try with_reducible refine callM.toT ?_); refine callP (crxok_i r jA jC w1 (by omega) hjn) rfl rfl ?_; rintro _ _ - ⟨rfl, rfl⟩; (try simp only [seval, go_sem]); ((try simp only [seval, go_sem]); repeat ((first | with_reducible refine vsI.id ?_ | with_reducible refine vcI_cond ?_); (try simp only [seval, go_sem])))
      simp only [seval, go_sem, hrk]
      ((try simp only [seval, go_sem]); repeat ((first | with_reducible refine vsI.id ?_ | with_reducible refine vcI_cond ?_); (try simp only [seval, go_sem])))
      (try with_reducible refine callM.toT ?_); refine callP (lisdus got put (.slice gA got.length gC) (.slice pA put.length pC) w1 ⟨_, _, _, rfl, hc8, hgE.mono (Zc.trans' hz78 hw1), hr8.mono hw1⟩ ⟨_, _, _, rfl, hc7, hpE.mono (Zc.trans' hz78 hw1), hr7.mono (Zc.trans' hz8 hw1)⟩ (by omega) (by omega) hg24 hp24) rfl rfl ?_; rintro _ _ - ⟨rfl, rfl⟩; (try simp only [seval, go_sem]); ((try simp only [seval, go_sem]); repeat ((first | with_reducible refine vsI.id ?_ | with_reducible refine vcI_cond ?_); (try simp only [seval, go_sem])))
      simp only [seval, go_sem, decide_eq_true hall, hI.td, hI.rd, hI.out]
      ((try simp only [seval, go_sem]); repeat ((first | with_reducible refine vsI.id ?_ | with_reducible refine vcI_cond ?_); (try simp only [seval, go_sem])))
      simp only [seval, go_sem, beq_self_eq_true]
      ((try simp only [seval, go_sem]); repeat ((first | with_reducible refine vsI.id ?_ | with_reducible refine vcI_cond ?_); (try simp only [seval, go_sem])))
      (try with_reducible refine callM.toT ?_); refine callP (liok w1) rfl rfl ?_; rintro _ _ - ⟨rfl, rfl⟩; (try simp only [seval, go_sem]); ((try simp only [seval, go_sem]); repeat ((first | with_reducible refine vsI.id ?_ | with_reducible refine vcI_cond ?_); (try simp only [seval, go_sem])))
      (((try simp only [seval, go_sem]); repeat ((first | with_reducible refine vsI.id ?_ | with_reducible refine vcI_cond ?_); (try simp only [seval, go_sem]))); with_reducible refine FinV.of ?_; simp only [finE, finS, gt, look, SV.toV, SC.toV, allV, tupV, List.map_cons, List.map_nil, List.length_cons, List.length_nil, Nat.reduceAdd, Nat.reduceEqDiff, reduceCtorEq, if_true, if_false, reduceIte, Nat.succ_ne_self, true_and, List.getElem?_cons_zero, Nat.zero_add, Nat.add_zero])
end Go.Proofs.YtpjaidjnamngaaaGreat
namespace Go.Proofs.YtpjaidjnamngaaaGreat.fnCrdLine
open Go.ChangeShapes Go.WideShapes Go.ChangeAt Go.RowKit
open Go.ChangeMaps (open_string shut_string)
set_option linter.unusedVariables false
set_option linter.unusedSimpArgs false
theorem own : ownKnob Tryz.prog.godebug = none := by kernel_rfl
theorem laidOut : laidOutB Tryz.prog = true := by kernel_rfl
def IsRow (k : IntKind) (w : World) (a : Option Addr) (len cap : Nat) (zs : List Int) : Prop :=
  (a = none ∧ len = 0 ∧ cap = 0 ∧ zs = []) ∨
  ∃ x, a = some x ∧ len ≤ cap ∧ cap ≤ maxLen ∧ zs.length = cap ∧ (∀ i, i < zs.length → w.cell? (x.add i) = some (.int k (zs.getD i 0))) ∧ ∀ n ∈ zs, (Lit.int k n).wf = true
/-- All that lies before the call stays as it is. -/
def all (W : World) : Zc := ⟨fun _ => True, W⟩
theorem all_wok (W : World) : WOk ⟨W, fun _ => False, all W⟩ (all W) (fun _ => False) W :=
  ⟨rfl, rfl, rfl, Nat.le_refl _, Nat.le_refl _, fun _ _ => rfl, fun _ h => h.elim, fun _ _ _ => rfl, fun _ h => h.elim, fun _ h => .inl h, Zc.rfl' _⟩
theorem IsRow.by {W : World} {a : Option Addr} {len cap : Nat} {zs : List Int} (h : IsRow .u8 W a len cap zs) : ∃ l, By (all W) l (.slice a len cap) := by
  rcases h with ⟨rfl, rfl, rfl, rfl⟩ | ⟨x, rfl, hlc, hcm, hl, hc, hw⟩
  · exact ⟨[], By.mk (Nat.le_refl _) (fun x hx => by cases hx) (RdAt.nil _ _ _)⟩
  · have hlen : (zs.take len).length = len := by rw [List.length_take]; omega
    refine ⟨zs.take len, ?_⟩
    have key := By.mk (z := all W) (l := zs.take len) (A := some x) (c := cap) (by omega) (fun y hy => ?_) (fun hn => ?_)
    · rw [hlen] at key; exact key
    · have := hw y (List.mem_of_mem_take hy)
      have h : IntKind.u8.min ≤ y ∧ y ≤ IntKind.u8.max := by simpa [Lit.wf] using this
      exact h
    · have h0 : 0 < zs.length := by
        cases zs with
        | nil => exact absurd (by simp [bc]) hn
        | cons _ _ => simp
      obtain ⟨b, o, rfl, hcell⟩ := ints_at hc h0
      refine ⟨b, o, rfl, ⟨trivial, cell_lt (hcell 0 h0)⟩, fun i u hu => ?_⟩
      simp only [bc, List.getElem?_map, Option.map_eq_some_iff] at hu
      obtain ⟨y, hy, rfl⟩ := hu
      rw [List.getElem?_take] at hy
      split at hy
      · obtain ⟨hi, rfl⟩ := List.getElem?_eq_some_iff.1 hy
        have := hcell i hi
        show W.cell? _ = _
        simpa [List.getD, hi] using this
      · cases hy
set_option maxRecDepth 100000 in
theorem lifted (os : Os) (started : os.Started) (H : Type) (enc : TypeId × Value → H) :
    ReturnsInHanded {} Tryz.checked os 3 .any (Rows.fnCrdLineSpec.pre6 enc Tryz.prog Tryz.f3 Rows.fnCrdLineRow.domain false) (Rows.fnCrdLineSpec.post enc Tryz.prog Tryz.f3 false true false false) := by
  refine returnsInHanded_of_change_sized (C := Tryz.checked) own started (by kernel_rfl) Tryz.func3
    (ChangeSpec.witness6 (enc := enc) (C := Tryz.checked) false ⟨#[], #[.slice none 0 0], []⟩ 8 (by kernel_rfl) (by kernel_rfl) (by kernel_rfl) (by kernel_rfl)) ?_
  intro W base args ds gs before hval0 hW hcnd hsz0 _
  have hval : ∀ (j : Nat) t v, Tryz.f3.params[j]? = some t → args[j]? = some v → Value.okWide Tryz.prog W .any base t v := hval0
  have hW' := hW
  obtain ⟨p, q, hA0, hV, rfl, hfz, hnd⟩ := hW
  have hA : DataW.TrodAll enc Tryz.prog W 0 (fun _ => true) true Tryz.f3.params.toList args.toList ds p := hA0
  rw [Tryz.params3] at hA hval
  obtain ⟨v0, vs0, d0, ds0, p0, q0, hargs, rfl, rfl, h0, r0⟩ := trodAll_cons hA
  obtain ⟨rfl, rfl, rfl⟩ := trodAll_nil r0
  obtain rfl : args = #[v0] := by cases args; simp_all
  obtain ⟨rfl, rfl⟩ := trodVars_none hV
  obtain ⟨a0, len0, cap0, rfl⟩ := okWide_slice Tryz.underlying22 (hval 0 22 v0 rfl rfl)
  have k0 := h0
  have lt0 : ∀ x ∈ p0, x.block < W.heap.size := by obtain ⟨m, hm⟩ := k0; exact DataW.trod_lt m _ _ _ hm
  obtain ⟨z0, w0⟩ : ∃ zs, IsRow .u8 W a0 len0 cap0 zs := by
    obtain ⟨fuel, hf⟩ := h0
    rcases open_ints Tryz.underlying22 Tryz.underlying5 (by kernel_rfl) hf with ⟨hcs, _⟩ | ⟨x, l, c, zs, hcs, _, hl, hm, hz, _, hcell, hwz⟩
    · simp [Value.cells] at hcs
      obtain ⟨rfl, rfl, rfl⟩ := hcs
      exact ⟨[], .inl ⟨rfl, rfl, rfl, rfl⟩⟩
    · simp [Value.cells] at hcs
      obtain ⟨rfl, rfl, rfl⟩ := hcs
      exact ⟨zs, .inr ⟨_, rfl, hl, hm, by simpa using hz, hcell, hwz⟩⟩
  clear hA0 hval0 hsz0
  obtain ⟨l, hl⟩ := w0.by
  refine (crdLine_law l _ (all W) hl W (fun _ => False) (all_wok W) (fun _ h => h)).mono fun e W' ⟨v, z', A', F', he, ⟨_, hv⟩, _, ok⟩ => ?_
  subst he; subst hv
  have bel : Below W.heap.size W W' := ⟨ok.os, ok.tape, ok.output, ok.size, fun k hk => ok.unt k hk id⟩
  exact ⟨_, rfl, _, _, _, [], _, [], hW', trodAll_mk1 (shut_bool Tryz.underlying4 _), (trodAll_cons_mk (Below.trod laidOut (by kernel_rfl) (of_decide_eq_true (by kernel_rfl)) k0 bel lt0) trodAll_mk0), rfl, bel.frame _, fun h => by cases h⟩
theorem over : Rows.fnCrdLineRow.holds Tryz.pinned (OpenSpec.ofChange Rows.fnCrdLineSpec) :=
  OpenClaim.holds_of_wide 3 Tryz.f3 rfl rfl rfl rfl rfl rfl rfl ⟨rfl, rfl, rfl, rfl, rfl⟩ rfl rfl rfl rfl rfl (by kernel_rfl) Tryz.func3 (by kernel_rfl)
    (of_decide_eq_true (by kernel_rfl)) (by unfold Func.isWrapper; first | (rw [if_pos (by decide +kernel)]; kernel_rfl) | (rw [if_neg (by decide +kernel)]; exact ⟨rfl, rfl⟩))
    (fun os started H enc _ => lifted os started H enc)
theorem proved : Rows.FnCrdLineSaid := over
#print axioms proved
end Go.Proofs.YtpjaidjnamngaaaGreat.fnCrdLine
namespace Go.Proofs.YtpjaidjnamngaaaGreat
/-- The row, under a short name, for the claim. -/
theorem fnCrdLine_holds : Rows.FnCrdLineSaid := fnCrdLine.proved
end Go.Proofs.YtpjaidjnamngaaaGreat
