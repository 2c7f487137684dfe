/- Copies that are one's own, of messages and of what is on its way, by the program. · Frames go on their way, by the program. · A frame goes on its way, if there is one, by the program. · Who asks, and who is busy, by the program. · What happens to one by numbers, by the program. · One sends by numbers, by the program. · One asks, is busy, or says how far all has come, by numbers, by the program. · One is busy, by numbers, by the program. · What does nothing, by numbers, by the program. · One says how far all has come, by numbers, by the program. -/
import Derived.Test.YtllafcmkppmdgaaGreatB16
import Derived.Test.YtllafcmkppmdgaaGreatB12
import Derived.Test.YtllafcmkppmdgaaGreatB15
import Derived.Test.YtllafcmkppmdgaaGreatB4
import Derived.Test.YtllafcmkppmdgaaGreatB6
import Derived.Test.YtllafcmkppmdgaaGreatB14
namespace Go.Proofs.YtllafcmkppmdgaaGreat
open Go.RowKit
set_option linter.unusedVariables false
set_option linter.unusedSimpArgs false
set_option maxRecDepth 100000
set_option maxHeartbeats 1000000
theorem copysdusO (l : List (List Int)) (v : Value) (z : Zc) (h : Sl sduRep z l v) (hl : l.length ≤ 1000000) (hp : ∀ p ∈ l, p.length ≤ 1000000000) :
  Spec Tryz.prog 103 [v] z emp fun u z' A' => ∃ A c cs, u = .slice A l.length c ∧ A' = rowA tyS 1 (.slice A l.length c) l.length cs ∧ l.length ≤ c ∧ Els sduRep z' l cs := by
 obtain ⟨A, k, cs, rfl, hk, he, hr⟩ := h
 refine eA k103 ?_
 refine gO ?_
 refine othM.toT (oth_makeSlice 90 atyS rfl rfl rfl (by omega) (by decide) (fun v z0 hz0 => ?_))
 simp only [seval, go_sem]
 refine vsI.formR 90 rfl fun A2 c2 hv2 hc2 => ?_
 subst hv2
 refine vsI.atR 90 rfl fun hat2 => ?_
 have hlen : (madeCells z0.cells (l.length * 1)).toList.length = l.length := by simp [size_madeCells]
 refine gO ?_
 refine loop_upd (ι := CopS) (n := 0) (fun i => z ≤ i.z ∧ i.i ≤ l.length ∧ Els sduRep i.z (l.take i.i) i.c1 ∧ i.c2.length = l.length - i.i) (fun i => [(11, .c (.v (.int .i64 i.i)))]) (fun i => [(90, .own (rowA tyS 1 (.slice A2 l.length c2) l.length (i.c1 ++ i.c2)))]) (fun i => i.z) (fun i => l.length - i.i) ⟨0, [], (madeCells z0.cells (l.length * 1)).toList, z⟩ ⟨Zc.rfl' _, by simp, rfl, by simpa using hlen⟩ (by (simp only [wrI, wrR, anyL, st, List.append_nil, List.nil_append, List.cons_append]); exact rfl) ?_ ?_
 ·exact lE
 ·rintro ⟨i, d1, d2, z2⟩ ⟨hz2, hi, hd, hd2⟩
  dsimp only at *
  refine gO ?_
  (with_reducible refine condI.split (fun hg => ?_) (fun hg => ?_) <;> (try simp only [hg]) <;> (try simp only [seval, go_sem]))
  ·refine gO ?_
   have hi' : i < l.length := by simp at hg; omega
   obtain ⟨x, hx⟩ : ∃ x, l[i]? = some x := ⟨_, List.getElem?_eq_getElem hi'⟩
   have hxp := hp x (List.mem_of_getElem? hx)
   obtain ⟨c1, ⟨v, rfl, hb⟩, hr1⟩ := (he.mono hz2).at (hr.mono hz2) hx
   obtain ⟨A1, c1, rfl, hc1, hB1, hrb⟩ := By.form hb
   have hat : IsAt A := he.isAt hr (by decide) hi'
   (refine ⟨⟨by omega, by omega, hat⟩, ?_⟩; (try simp only [seval, go_sem]))
   (refine ldF.one _ (by first | exact .inl hr1 | exact hr1) ?_; (try simp only [seval, go_sem]))
   refine gO ?_
   refine tT ?_; refine callP (cloneBy x _ z2 hb (by omega)) rfl rfl ?_; rintro v3 z3 hz3 ⟨A3, rfl, _, hr3⟩; refine gO ?_
   (refine ⟨⟨by omega, by omega, hat2 (by omega)⟩, ?_⟩; (try simp only [seval, go_sem]))
   refine stoV_row 90 rfl rfl rfl rfl rfl rfl rfl (by rw [List.length_append, hd2, hd.length]; simp; show _ ≤ min i l.length * 1 + _; omega) ?_
   simp only [seval, go_sem]
   refine gO ?_
   have hl1 : d1.length = i * 1 := by rw [hd.length]; show (l.take i).length * 1 = _; simp; omega
   rw [putV_at hl1]
   refine ⟨⟨i + 1, d1 ++ [.slice A3 x.length x.length], d2.drop 1, z3⟩, ⟨Zc.trans' hz2 hz3, by dsimp only; omega, ?_, by simp; omega⟩, by dsimp only; omega, ?_⟩
   ·dsimp only
    rw [List.take_add_one, hx]
    exact (hd.mono hz3).append (Els.single ⟨_, rfl, By.mk (Nat.le_refl _) hB1 hr3⟩)
   ·exact lE
  ·refine gO ?_
   (((try simp only [seval, go_sem]);repeat((with_reducible first|refine vJ ?_|refine vK ?_);try simp only [seval, go_sem])); refine FinV.own 90 rfl ?_; simp only [finE, finS, gt, look, SV.toV, SC.toV, allV, tupV, zq1, zq2, zq3, zq4, Nat.reduceAdd, Nat.reduceEqDiff, reduceCtorEq, if_true, if_false, reduceIte, Nat.succ_ne_self, true_and, zq5, zq7, zq8])
   have : i = l.length := by simp at hg; omega
   subst this
   have : d2 = [] := List.eq_nil_of_length_eq_zero (by omega)
   subst this
   exact ⟨A2, c2, d1, rfl, by simp, hc2, by simpa using hd⟩
theorem scloneMO (A : Option Addr) (n c : Nat) (cs : List Value) (z : Zc) (hr : RdAt z A 0 cs) (hl : cs.length = n * 2) (h1 : ∀ u ∈ cs, u.oneCell' = true) (hb : n ≤ 1000000000) :
  Spec Tryz.prog 132 [.slice A n c] z emp fun v z' A' => ∃ A2 c2, v = .slice A2 n c2 ∧ n ≤ c2 ∧ A' = rowA tyM 2 (.slice A2 n c2) n cs := by
 by_cases hn : n = 0
 ·subst hn
  obtain rfl : cs = [] := List.eq_nil_of_length_eq_zero (by omega)
  refine eA k132 ?_
  refine gO ?_
  (with_reducible refine condI.split (fun hg => ?_) (fun hg => ?_) <;> (try simp only [hg]) <;> (try simp only [seval, go_sem]))
  ·refine gO ?_
   refine FinV.tf (Tf.nilRow 90 tyM 2 rfl) ?_
   dsimp only
   (((try simp only [seval, go_sem]);repeat((with_reducible first|refine vJ ?_|refine vK ?_);try simp only [seval, go_sem])); refine FinV.own 90 rfl ?_; simp only [finE, finS, gt, look, SV.toV, SC.toV, allV, tupV, zq1, zq2, zq3, zq4, Nat.reduceAdd, Nat.reduceEqDiff, reduceCtorEq, if_true, if_false, reduceIte, Nat.succ_ne_self, true_and, zq5, zq7, zq8])
   exact ⟨none, 0, rfl, by omega, rfl⟩
  ·refine gO ?_
   refine aT ?_; (refine appM_zero atyMs (by first | exact .inl ⟨_, _, _, Nat.le_refl _, rfl⟩ | exact .inr ⟨_, _, rfl⟩) rfl ?_); refine gO ?_
   refine FinV.toRow 90 0 (m := 0) (sz := 2) rfl rfl rfl (by omega) (fun b => ?_)
   simp only [seval, go_sem, rowSt, subV, subC, subE, subL]
   (((try simp only [seval, go_sem]);repeat((with_reducible first|refine vJ ?_|refine vK ?_);try simp only [seval, go_sem])); refine FinV.own 90 rfl ?_; simp only [finE, finS, gt, look, SV.toV, SC.toV, allV, tupV, zq1, zq2, zq3, zq4, Nat.reduceAdd, Nat.reduceEqDiff, reduceCtorEq, if_true, if_false, reduceIte, Nat.succ_ne_self, true_and, zq5, zq7, zq8])
   exact ⟨_, _, rfl, by simp, rfl⟩
 ·refine eA k132 ?_
  refine gO ?_
  (with_reducible refine condI.split (fun hg => ?_) (fun hg => ?_) <;> (try simp only [hg]) <;> (try simp only [seval, go_sem]))
  ·exfalso
   cases A with
   | none => obtain ⟨b, o, e, _⟩ := hr (by intro e; subst e; simp at hl; omega); cases e
   | some a => simp at hg
  ·refine gO ?_
   refine aT ?_; (refine appM_emptyO 90 atyMs rfl (by first | exact .inl ⟨_, rfl⟩ | exact .inr ⟨_, _, rfl⟩) rfl (hr) (by first | omega | (simp <;> omega)) (h1) (by omega) (by omega) (fun A2 c2 hc2 => ?_)); refine gO ?_
   (((try simp only [seval, go_sem]);repeat((with_reducible first|refine vJ ?_|refine vK ?_);try simp only [seval, go_sem])); refine FinV.own 90 rfl ?_; simp only [finE, finS, gt, look, SV.toV, SC.toV, allV, tupV, zq1, zq2, zq3, zq4, Nat.reduceAdd, Nat.reduceEqDiff, reduceCtorEq, if_true, if_false, reduceIte, Nat.succ_ne_self, true_and, zq5, zq7, zq8])
   exact ⟨A2, c2, rfl, hc2, rfl⟩
theorem cloneMO (A : Option Addr) (n c : Nat) (cs : List Value) (z : Zc) (hr : RdAt z A 0 cs) (hl : cs.length = n * 2) (h1 : ∀ u ∈ cs, u.oneCell' = true) (hb : n ≤ 1000000000) :
  Spec Tryz.prog 104 [.slice A n c] z emp fun v z' A' => ∃ A2, v = .slice A2 n n ∧ A' = rowA tyM 2 (.slice A2 n n) n cs ∧ (0 < n → IsAt A2) := by
 refine eA k104 ?_
 refine gO ?_
 refine tT ?_; refine callO 90 (scloneMO A n c cs z hr hl h1 hb) rfl rfl rfl ?_; rintro v z1 A' hz1 ⟨A2, c2, rfl, hc2, rfl⟩; refine gO ?_
 refine tT ?_; refine callP (sclipM A2 n c2 z1 hc2 hb) rfl rfl ?_; rintro v z2 hz2 rfl; refine gO ?_
 refine FinV.tf (Tf.cut 90 rfl rfl 0 n n (by omega) (by omega) (by omega) (by omega) (.inl rfl)) ?_
 by_cases hn : 0 < n
 ·refine FinV.atR 90 rfl hn fun hat => ?_
  (((try simp only [seval, go_sem]);repeat((with_reducible first|refine vJ ?_|refine vK ?_);try simp only [seval, go_sem])); refine FinV.own 90 rfl ?_; simp only [finE, finS, gt, look, SV.toV, SC.toV, allV, tupV, zq1, zq2, zq3, zq4, Nat.reduceAdd, Nat.reduceEqDiff, reduceCtorEq, if_true, if_false, reduceIte, Nat.succ_ne_self, true_and, zq5, zq7, zq8])
  exact ⟨_, rfl, by rw [List.take_of_length_le (by omega)], fun _ => by simpa only [cutA_zero] using hat⟩
 ·(((try simp only [seval, go_sem]);repeat((with_reducible first|refine vJ ?_|refine vK ?_);try simp only [seval, go_sem])); refine FinV.own 90 rfl ?_; simp only [finE, finS, gt, look, SV.toV, SC.toV, allV, tupV, zq1, zq2, zq3, zq4, Nat.reduceAdd, Nat.reduceEqDiff, reduceCtorEq, if_true, if_false, reduceIte, Nat.succ_ne_self, true_and, zq5, zq7, zq8])
  exact ⟨_, rfl, by rw [List.take_of_length_le (by omega)], fun h => absurd h hn⟩
theorem nets_zero' : (madeCells (Value.slice none 0 0).cells 2).toList = [.slice none 0 0, .slice none 0 0] := by kernel_rfl
theorem nets_zero {z0 : Value} (h : ∃ i, Tryz.prog.info? tyN = some i ∧ i.zero = some z0) : (madeCells z0.cells 2).toList = [.slice none 0 0, .slice none 0 0] := by
 obtain ⟨i, h1, h2⟩ := h
 have h3 : (Tryz.prog.info? tyN).bind (·.zero) = some (.slice none 0 0) := by kernel_rfl
 rw [h1, Option.bind_some, h2] at h3
 injection h3 with h3
 subst h3
 exact nets_zero'
theorem RdA.wldB {z : Zc} {e0 e1 : End} {n0 n1 : List Msg} {m : WM} (hR : WldB z e0 e1 n0 n1 m) : RdA (starL (wldL e0 e1 n0 n1 m)) fun z' => z ≤ z' → WldP z' e0 e1 n0 n1 m := fun z' F hh hz hle => by
 obtain ⟨E, N, p0, g0, p1, g1, r0, b0, r1, b1, _⟩ := (RdA.cons RdA.row (.cons RdA.row (.cons RdA.row (.cons RdA.row (.cons RdA.row (.cons RdA.row (.cons RdA.row (.cons (RdA.net hR.n0.ok) (.cons RdA.row (.cons (RdA.net hR.n1.ok) RdA.nil)))))))))) z' F hh hz
 have h0 := hR.e0.mono hle
 have h1 := hR.e1.mono hle
 exact ⟨E, N, ⟨h0.fl, h0.qu, ⟨_, _, _, rfl, h0.pc, h0.pu, p0⟩, ⟨_, _, _, rfl, h0.gc, h0.go, g0⟩, h0.jo, h0.cq, h0.kj⟩,
  ⟨h1.fl, h1.qu, ⟨_, _, _, rfl, h1.pc, h1.pu, p1⟩, ⟨_, _, _, rfl, h1.gc, h1.go, g1⟩, h1.jo, h1.cq, h1.kj⟩, ⟨_, _, _, rfl, hR.n0.cap, b0, r0⟩, ⟨_, _, _, rfl, hR.n1.cap, b1, r1⟩⟩
set_option maxHeartbeats 2000000
abbrev wldE (c : Cfg) (link : Int) (m : WM) : List SC := [.v (.int .i64 c.mode), .v (.int .i64 c.win), .v (.int .i64 c.mps), .v (.int .i64 c.mtu), .v (.int .i64 c.tri), .v (.slice m.E 2 m.EC), .v (.slice m.N 2 m.NC), .v (.int .i64 link)]
abbrev wldK (b : Nat) (c : Cfg) (link : Int) (e0 e1 : End) (n0 n1 : List Msg) (m : WM) : Ents := [(0, .cells tyW (wldE c link m)), (2000, .link 0 b), (10, .own (rowA tyE 28 (.slice m.E 2 m.EC) 2 (endsC e0 e1 m.m0 m.m1))), (11, .own (rowA tyN 1 (.slice m.N 2 m.NC) 2 [.slice m.n0.A n0.length m.n0.C, .slice m.n1.A n1.length m.n1.C])),
 (22, .own (rowA tyS 1 (.slice m.m0.pA e0.put.length m.m0.pC) e0.put.length m.m0.pV)), (23, .own (rowA tyS 1 (.slice m.m0.gA e0.got.length m.m0.gC) e0.got.length m.m0.gV)), (32, .own (rowA tyS 1 (.slice m.m1.pA e1.put.length m.m1.pC) e1.put.length m.m1.pV)), (33, .own (rowA tyS 1 (.slice m.m1.gA e1.got.length m.m1.gC) e1.got.length m.m1.gV)),
 (40, .own (rowA tyM 2 (.slice m.n0.A n0.length m.n0.C) n0.length (netV n0 m.n0.ms))), (41, .own (starL (netB n0 m.n0.ms))), (50, .own (rowA tyM 2 (.slice m.n1.A n1.length m.n1.C) n1.length (netV n1 m.n1.ms))), (51, .own (starL (netB n1 m.n1.ms)))]
structure SayS where
 i : Nat
 n0 : List Msg
 n1 : List Msg
 link : Int
 m : WM
 z : Zc
theorem say_p0 (b : Nat) (c : Cfg) (link : Int) (e0 e1 : End) (n0 n1 : List Msg) (m : WM) (l : List Frm) (v : Value) (z : Zc) (hR : WldB z e0 e1 n0 n1 m) (hv : Sl fRep z l v) (hl : l.length ≤ 1000) (hf : ∀ f ∈ l, frmOk f = true ∧ f.data.length ≤ 8) (h0 : n0.length ≤ 30) (h1 : n1.length ≤ 30) :
  Spec Tryz.prog 137 [.pointer (some ⟨b, 0, none⟩), .int .i64 0, v] z (wldP b c link e0 e1 n0 n1 m) fun _ z' A' => WldQ c (says ⟨c, [e0, e1], [n0, n1], link⟩ 0 l) b z' A' := by
 obtain ⟨A, kk, cs, rfl, hk, he, hr⟩ := hv
 refine eQ kyI k137 ?_
 refine vsI.atR 11 rfl fun hN => ?_
 have hN := hN (by omega)
 refine gO ?_
 refine loop_upd (ι := SayS) (n := 1) (fun s => z ≤ s.z ∧ s.i ≤ l.length ∧ says ⟨c, [e0, e1], [n0, n1], link⟩ 0 (l.take s.i) = ⟨c, [e0, e1], [s.n0, s.n1], s.link⟩ ∧ WldB s.z e0 e1 s.n0 s.n1 s.m ∧ s.n0.length ≤ 30 ∧ s.n1.length ≤ 30 ∧ IsAt s.m.N) (fun s => [(10, .c (.v (.int .i64 s.i)))])
  (fun s => wldK b c s.link e0 e1 s.n0 s.n1 s.m) (fun s => s.z) (fun s => l.length - s.i) ⟨0, n0, n1, link, m, z⟩ ⟨Zc.rfl' _, by simp, by simp [says], hR, h0, h1, hN⟩ (by (simp only [wrI, wrR, anyL, st, List.append_nil, List.nil_append, List.cons_append]); exact rfl) ?_ ?_
 ·exact lX
 ·rintro ⟨i, n0', n1', link', m', z1⟩ ⟨hz1, hi, hgl, hR1, hn0, hn1, hN⟩
  dsimp only at *
  refine gO ?_
  (with_reducible refine condI.split (fun hg => ?_) (fun hg => ?_) <;> (try simp only [hg]) <;> (try simp only [seval, go_sem]))
  ·have hi' : i < l.length := by simp at hg; omega
   obtain ⟨x, hx⟩ : ∃ x, l[i]? = some x := ⟨_, List.getElem?_eq_getElem hi'⟩
   obtain ⟨hf1, hf8⟩ := hf x (List.mem_of_getElem? hx)
   obtain ⟨c1, ⟨v, rfl, hb⟩, hr1⟩ := (he.mono hz1).at (hr.mono hz1) hx
   obtain ⟨Ax, kx, rfl, hkx, hBx, hrx⟩ := hb.form
   have hat : IsAt A := he.isAt hr (by decide) hi'
   refine gO ?_
   (refine ⟨⟨by omega, by omega, hat⟩, ?_⟩; (try simp only [seval, go_sem]))
   (refine ldF.agg _ rfl (by first | exact .inl hr1 | exact hr1) ?_; (try simp only [seval, go_sem]))
   refine gO ?_
   simp only [wr10]
   (refine callT.give 90 0 2001 rfl rfl (fun bb => ?_)); simp only [seval, go_sem, giveSt, subV, subC, subE, subL]
   refine wD ?_
   refine tT ?_; refine callW 91 (room1 bb c link' e0 e1 n0' n1' m' z1 (by omega)) rfl rfl rfl rfl ?_; rintro v2 z2 A2 hz2 ⟨rfl, rfl, rfl⟩; (try simp only [seval, go_sem])
   (refine vsI.tf (Tf.open' 91 [92, 10, 11, 22, 23, 32, 33, 40, 41, 50, 51] rfl rfl rfl) ?_); simp only [seval, go_sem, zipL]
   (refine vsI.take 92 0 2001 rfl rfl rfl ?_); simp only [seval, go_sem, takeSt, unV, vals]; refine gO ?_
   have hlen := hR1.n1.ok.len
   have hvl := netV_len hR1.n1.ok
   by_cases h30 : n1'.length < 30
   ·simp only [seval, go_sem, decide_eq_true h30]
    refine gO ?_
    (with_reducible refine joinV.id ?_; simp only [seval, go_sem])
    simp only [wr10]
    simp only [seval, go_sem]
    ((first | refine ⟨⟨by omega, hN⟩, ?_⟩ | refine ⟨hN, ?_⟩); (try simp only [seval, go_sem]))
    have hw3 : ∀ z3, z1 ≤ z3 → WldB z3 e0 e1 n0' n1' m' := fun z3 hz3 => hR1.mono hz3
    repeat' (first | (refine And.intro ?_ ?_ <;> (try simp only [seval, go_sem])) | (refine ldF.one _ (RdS.cell 11 rfl rfl) ?_; refine gO ?_))
    all_goals refine tT ?_; refine callO 95 (frmBytesO_i x _ z1 hb (by omega) hf1) rfl rfl rfl ?_; rintro v3 z3 A3 hz3 ⟨A5, rfl, rfl⟩; refine gO ?_
    repeat' (first | (refine And.intro ?_ ?_ <;> (try simp only [seval, go_sem])) | (refine ldF.one _ (RdS.cell 11 rfl rfl) ?_; refine gO ?_))
    all_goals refine aT ?_; (refine appM_newF 50 atyMs rfl rfl rfl rfl rfl rfl rfl (by simp [Value.oneCell']) (by omega) (fun A6 c6 hc6 hat6 => ?_)); refine gO ?_
    all_goals ((first | refine ⟨⟨by omega, hN⟩, ?_⟩ | refine ⟨hN, ?_⟩); (try simp only [seval, go_sem]))
    all_goals refine stoV_row 11 rfl rfl rfl rfl rfl rfl rfl (by simp) ?_
    all_goals simp only [seval, go_sem, putV]
    all_goals refine vsI.pk 51 [51, 95] ?_
    all_goals dsimp only
    all_goals refine vsI.tf (Tf.own 51 rfl rfl (fun w F h => starL_push h)) ?_
    all_goals dsimp only
    all_goals refine gO ?_
    all_goals have hR3 := hw3 z3 hz3
    all_goals refine ⟨⟨i + 1, n0', n1' ++ [⟨false, frmBytes x⟩], link', { m' with n1 := ⟨A6, c6, m'.n1.ms ++ [(A5, (frmBytes x).length)]⟩ }, z3⟩, ⟨Zc.trans' hz1 hz3, by dsimp only; omega, by dsimp only; rw [says_take hx, hgl, say1_y1 h30], ⟨hR3.e0, hR3.e1, hR3.n0, hR3.n1.snoc hc6 (Nat.le_refl _) (frmBytes_bys hf1 hBx)⟩, by simp; omega, by simp; omega, hN⟩, by dsimp only; omega, ?_⟩
    all_goals simp only [wldK, wldE, netV_snoc _ _ _ _ _ hlen, netB_snoc _ _ _ _ _ hlen, List.length_append, List.length_singleton]
    all_goals exact lX
   ·simp only [seval, go_sem, decide_eq_false h30]
    refine gO ?_
    refine ⟨⟨i + 1, n0', n1', link', m', z1⟩, ⟨hz1, by dsimp only; omega, by dsimp only; rw [says_take hx, hgl, say1_n1 h30], hR1, hn0, hn1, hN⟩, by dsimp only; omega, ?_⟩
    exact lX
  ·have hil : i = l.length := by simp at hg; omega
   subst hil
   rw [List.take_length] at hgl
   refine gO ?_
   refine wF1 ?_
   rw [hgl]
   exact WldQ.mk hR1
theorem say_p1 (b : Nat) (c : Cfg) (link : Int) (e0 e1 : End) (n0 n1 : List Msg) (m : WM) (l : List Frm) (v : Value) (z : Zc) (hR : WldB z e0 e1 n0 n1 m) (hv : Sl fRep z l v) (hl : l.length ≤ 1000) (hf : ∀ f ∈ l, frmOk f = true ∧ f.data.length ≤ 8) (h0 : n0.length ≤ 30) (h1 : n1.length ≤ 30) :
  Spec Tryz.prog 137 [.pointer (some ⟨b, 0, none⟩), .int .i64 1, v] z (wldP b c link e0 e1 n0 n1 m) fun _ z' A' => WldQ c (says ⟨c, [e0, e1], [n0, n1], link⟩ 1 l) b z' A' := by
 obtain ⟨A, kk, cs, rfl, hk, he, hr⟩ := hv
 refine eQ kyI k137 ?_
 refine vsI.atR 11 rfl fun hN => ?_
 have hN := hN (by omega)
 refine gO ?_
 refine loop_upd (ι := SayS) (n := 1) (fun s => z ≤ s.z ∧ s.i ≤ l.length ∧ says ⟨c, [e0, e1], [n0, n1], link⟩ 1 (l.take s.i) = ⟨c, [e0, e1], [s.n0, s.n1], s.link⟩ ∧ WldB s.z e0 e1 s.n0 s.n1 s.m ∧ s.n0.length ≤ 30 ∧ s.n1.length ≤ 30 ∧ IsAt s.m.N) (fun s => [(10, .c (.v (.int .i64 s.i)))])
  (fun s => wldK b c s.link e0 e1 s.n0 s.n1 s.m) (fun s => s.z) (fun s => l.length - s.i) ⟨0, n0, n1, link, m, z⟩ ⟨Zc.rfl' _, by simp, by simp [says], hR, h0, h1, hN⟩ (by (simp only [wrI, wrR, anyL, st, List.append_nil, List.nil_append, List.cons_append]); exact rfl) ?_ ?_
 ·exact lX
 ·rintro ⟨i, n0', n1', link', m', z1⟩ ⟨hz1, hi, hgl, hR1, hn0, hn1, hN⟩
  dsimp only at *
  refine gO ?_
  (with_reducible refine condI.split (fun hg => ?_) (fun hg => ?_) <;> (try simp only [hg]) <;> (try simp only [seval, go_sem]))
  ·have hi' : i < l.length := by simp at hg; omega
   obtain ⟨x, hx⟩ : ∃ x, l[i]? = some x := ⟨_, List.getElem?_eq_getElem hi'⟩
   obtain ⟨hf1, hf8⟩ := hf x (List.mem_of_getElem? hx)
   obtain ⟨c1, ⟨v, rfl, hb⟩, hr1⟩ := (he.mono hz1).at (hr.mono hz1) hx
   obtain ⟨Ax, kx, rfl, hkx, hBx, hrx⟩ := hb.form
   have hat : IsAt A := he.isAt hr (by decide) hi'
   refine gO ?_
   (refine ⟨⟨by omega, by omega, hat⟩, ?_⟩; (try simp only [seval, go_sem]))
   (refine ldF.agg _ rfl (by first | exact .inl hr1 | exact hr1) ?_; (try simp only [seval, go_sem]))
   refine gO ?_
   simp only [wr11]
   (refine callT.give 90 0 2001 rfl rfl (fun bb => ?_)); simp only [seval, go_sem, giveSt, subV, subC, subE, subL]
   refine wD ?_
   refine tT ?_; refine callW 91 (room0 bb c link' e0 e1 n0' n1' m' z1 (by omega)) rfl rfl rfl rfl ?_; rintro v2 z2 A2 hz2 ⟨rfl, rfl, rfl⟩; (try simp only [seval, go_sem])
   (refine vsI.tf (Tf.open' 91 [92, 10, 11, 22, 23, 32, 33, 40, 41, 50, 51] rfl rfl rfl) ?_); simp only [seval, go_sem, zipL]
   (refine vsI.take 92 0 2001 rfl rfl rfl ?_); simp only [seval, go_sem, takeSt, unV, vals]; refine gO ?_
   have hlen := hR1.n0.ok.len
   have hvl := netV_len hR1.n0.ok
   by_cases h30 : n0'.length < 30
   ·simp only [seval, go_sem, decide_eq_true h30]
    refine gO ?_
    (with_reducible refine joinV.id ?_; simp only [seval, go_sem])
    simp only [wr11]
    simp only [seval, go_sem]
    ((first | refine ⟨⟨by omega, hN⟩, ?_⟩ | refine ⟨hN, ?_⟩); (try simp only [seval, go_sem]))
    have hw3 : ∀ z3, z1 ≤ z3 → WldB z3 e0 e1 n0' n1' m' := fun z3 hz3 => hR1.mono hz3
    repeat' (first | (refine And.intro ?_ ?_ <;> (try simp only [seval, go_sem])) | (refine ldF.one _ (RdS.cell 11 rfl rfl) ?_; refine gO ?_))
    all_goals refine tT ?_; refine callO 95 (frmBytesO_i x _ z1 hb (by omega) hf1) rfl rfl rfl ?_; rintro v3 z3 A3 hz3 ⟨A5, rfl, rfl⟩; refine gO ?_
    repeat' (first | (refine And.intro ?_ ?_ <;> (try simp only [seval, go_sem])) | (refine ldF.one _ (RdS.cell 11 rfl rfl) ?_; refine gO ?_))
    all_goals refine aT ?_; (refine appM_newF 40 atyMs rfl rfl rfl rfl rfl rfl rfl (by simp [Value.oneCell']) (by omega) (fun A6 c6 hc6 hat6 => ?_)); refine gO ?_
    all_goals ((first | refine ⟨⟨by omega, hN⟩, ?_⟩ | refine ⟨hN, ?_⟩); (try simp only [seval, go_sem]))
    all_goals refine stoV_row 11 rfl rfl rfl rfl rfl rfl rfl (by simp) ?_
    all_goals simp only [seval, go_sem, putV]
    all_goals refine vsI.pk 41 [41, 95] ?_
    all_goals dsimp only
    all_goals refine vsI.tf (Tf.own 41 rfl rfl (fun w F h => starL_push h)) ?_
    all_goals dsimp only
    all_goals refine gO ?_
    all_goals have hR3 := hw3 z3 hz3
    all_goals refine ⟨⟨i + 1, n0' ++ [⟨false, frmBytes x⟩], n1', link', { m' with n0 := ⟨A6, c6, m'.n0.ms ++ [(A5, (frmBytes x).length)]⟩ }, z3⟩, ⟨Zc.trans' hz1 hz3, by dsimp only; omega, by dsimp only; rw [says_take hx, hgl, say1_y0 h30], ⟨hR3.e0, hR3.e1, hR3.n0.snoc hc6 (Nat.le_refl _) (frmBytes_bys hf1 hBx), hR3.n1⟩, by simp; omega, by simp; omega, hN⟩, by dsimp only; omega, ?_⟩
    all_goals simp only [wldK, wldE, netV_snoc _ _ _ _ _ hlen, netB_snoc _ _ _ _ _ hlen, List.length_append, List.length_singleton]
    all_goals exact lX
   ·simp only [seval, go_sem, decide_eq_false h30]
    refine gO ?_
    refine ⟨⟨i + 1, n0', n1', link', m', z1⟩, ⟨hz1, by dsimp only; omega, by dsimp only; rw [says_take hx, hgl, say1_n0 h30], hR1, hn0, hn1, hN⟩, by dsimp only; omega, ?_⟩
    exact lX
  ·have hil : i = l.length := by simp at hg; omega
   subst hil
   rw [List.take_length] at hgl
   refine gO ?_
   refine wF1 ?_
   rw [hgl]
   exact WldQ.mk hR1
set_option maxHeartbeats 1000000
theorem sayif_p0 (b : Nat) (c : Cfg) (link : Int) (e0 e1 : End) (n0 n1 : List Msg) (m : WM) (o : Option Frm) (x : Value) (z : Zc) (hR : WldB z e0 e1 n0 n1 m) (hx : By z (o.getD frm0).data x) (hf : ∀ f, o = some f → frmOk f = true ∧ f.data.length ≤ 8) (h0 : n0.length ≤ 30) (h1 : n1.length ≤ 30) :
  Spec Tryz.prog 140 [.pointer (some ⟨b, 0, none⟩), .int .i64 0, vFrm (o.getD frm0) x, .bool o.isSome] z (wldP b c link e0 e1 n0 n1 m) fun _ z' A' => WldQ c (sayO ⟨c, [e0, e1], [n0, n1], link⟩ 0 o) b z' A' := by
 obtain ⟨Ax, kx, rfl, hkx, hBx, hrx⟩ := hx.form
 refine eB k140 ?_
 cases o with
 | none =>
  simp only [Option.isSome_none]
  refine gO ?_
  refine fQ ?_
  exact WldQ.mk hR
 | some f =>
  simp only [Option.isSome_some, Option.getD_some] at hx hkx hBx hrx ⊢
  refine gO ?_
  (first | refine callT.frz 1 rfl rfl (fun b1 z1 hz1 hr1 => ?_) | refine callM.frz 1 rfl rfl (fun b1 z1 hz1 hr1 => ?_)); dsimp only at hz1; simp only [seval, go_sem, Go.Proofs.YtllafcmkppmdgaaGreat.frz, subV, subC, subE, subL]
  refine tT ?_; refine callW 1000 (say_p0 b c link e0 e1 n0 n1 m [f] (.slice (some ⟨b1, 0, none⟩) 1 1) z1 (hR.mono hz1) ⟨_, _, _, rfl, Nat.le_refl _, Els.single (d := fRep) ⟨_, rfl, hx.mono hz1⟩, hr1⟩ (by simp) (fun g hg => by rw [List.mem_singleton.1 hg]; exact hf f rfl) h0 h1) rfl rfl rfl rfl ?_; rintro v z2 A2 hz2 h2; refine gO ?_
  refine fQ ?_
  exact h2
theorem sayif_p1 (b : Nat) (c : Cfg) (link : Int) (e0 e1 : End) (n0 n1 : List Msg) (m : WM) (o : Option Frm) (x : Value) (z : Zc) (hR : WldB z e0 e1 n0 n1 m) (hx : By z (o.getD frm0).data x) (hf : ∀ f, o = some f → frmOk f = true ∧ f.data.length ≤ 8) (h0 : n0.length ≤ 30) (h1 : n1.length ≤ 30) :
  Spec Tryz.prog 140 [.pointer (some ⟨b, 0, none⟩), .int .i64 1, vFrm (o.getD frm0) x, .bool o.isSome] z (wldP b c link e0 e1 n0 n1 m) fun _ z' A' => WldQ c (sayO ⟨c, [e0, e1], [n0, n1], link⟩ 1 o) b z' A' := by
 obtain ⟨Ax, kx, rfl, hkx, hBx, hrx⟩ := hx.form
 refine eB k140 ?_
 cases o with
 | none =>
  simp only [Option.isSome_none]
  refine gO ?_
  refine fQ ?_
  exact WldQ.mk hR
 | some f =>
  simp only [Option.isSome_some, Option.getD_some] at hx hkx hBx hrx ⊢
  refine gO ?_
  (first | refine callT.frz 1 rfl rfl (fun b1 z1 hz1 hr1 => ?_) | refine callM.frz 1 rfl rfl (fun b1 z1 hz1 hr1 => ?_)); dsimp only at hz1; simp only [seval, go_sem, Go.Proofs.YtllafcmkppmdgaaGreat.frz, subV, subC, subE, subL]
  refine tT ?_; refine callW 1000 (say_p1 b c link e0 e1 n0 n1 m [f] (.slice (some ⟨b1, 0, none⟩) 1 1) z1 (hR.mono hz1) ⟨_, _, _, rfl, Nat.le_refl _, Els.single (d := fRep) ⟨_, rfl, hx.mono hz1⟩, hr1⟩ (by simp) (fun g hg => by rw [List.mem_singleton.1 hg]; exact hf f rfl) h0 h1) rfl rfl rfl rfl ?_; rintro v z2 A2 hz2 h2; refine gO ?_
  refine fQ ?_
  exact h2
set_option maxHeartbeats 2000000
theorem txtick_i (c : Cfg) (t : Tx) (ack : Int) (busy : Bool) (f q : Value) (z : Zc) (hI : TxI c t) (hf : Sl pRep z t.flight f) (hq : Sl pRep z t.queue q) (hk : 0 ≤ ack ∧ ack ≤ 7) :
  PSpec Tryz.prog 141 [vCfg c, vTx t f q, .int .i64 ack, .bool busy] z fun u z' => ∃ A a B b, u = .tuple #[vTx (txTick c t ack busy).1 (.slice A t.flight.length a) (.slice B t.queue.length b), vFrm ((txTick c t ack busy).2.getD frm0) (.slice none 0 0), .bool (txTick c t ack busy).2.isSome] ∧
   Sl pRep z' t.flight (.slice A t.flight.length a) ∧ Sl pRep z' t.queue (.slice B t.queue.length b) := by
 have hto := txok_i c t f q z hI hf hq
 have hw := hI.win
 have hcw := hI.cfg.win
 have hct := hI.cfg.tri
 have hq24 := hI.queue
 have htr := hI.tries
 have hp1 : ∀ p ∈ t.flight, p.data.length ≤ 1000000000 := fun p hp => by have := hI.flSmall p hp; omega
 have hp2 : ∀ p ∈ t.queue, p.data.length ≤ 1000000000 := fun p hp => by have := hI.quSmall p hp; omega
 obtain ⟨A, k, cs, rfl, hka, he, hr⟩ := hf
 obtain ⟨B, k2, cs2, rfl, hk2, he2, hr2⟩ := hq
 have w1 : IntKind.i64.wrap (t.tries + 1) = t.tries + 1 := wrap_in (by omega) (by omega)
 refine eP k141 ?_
 refine gO ?_
 refine tT ?_; refine callP (hto) rfl rfl ?_; rintro u z1 hz1 rfl; refine gO ?_
 refine tT ?_; refine callP (isnum ack z1) rfl rfl ?_; rintro _ _ - ⟨rfl, rfl⟩; refine gO ?_
 simp only [isNum_iff.2 hk]
 refine gO ?_
 refine tT ?_; refine callP (txcopy_i t _ _ z1 (Sl.mono hz1 ⟨A, k, cs, rfl, hka, he, hr⟩) (Sl.mono hz1 ⟨B, k2, cs2, rfl, hk2, he2, hr2⟩) (by omega) (by omega) hp1 hp2) rfl rfl ?_; rintro u z2 hz2 ⟨A2, B2, rfl, hf2, hq2⟩; refine gO ?_
 clear hto he he2 hr hr2 hp1 hp2
 (try simp only [seval, go_sem]); repeat' (first | (with_reducible refine vsI.id ?_; (try simp only [seval, go_sem])) | (with_reducible refine vcI_cond ?_; (try simp only [seval, go_sem])) | (with_reducible refine guardR.split (fun hg => ?_) (fun hg => ?_) <;> (try simp only [hg]) <;> simp only [seval, go_sem]) | (with_reducible refine condI.split (fun hg => ?_) (fun hg => ?_) <;> (try simp only [hg]) <;> (try simp only [seval, go_sem])) | (with_reducible refine callM.toT ?_) | (refine callP (gowait_i _ _) rfl rfl ?_; rintro _ _ - ⟨rfl, rfl⟩; (try simp only [seval, go_sem])))
 all_goals (first|refine fN ?_|exact fZ)
 all_goals refine ⟨A2, t.flight.length, B2, t.queue.length, ?_, hf2, hq2⟩
 all_goals first
  | (rw [txTick_none (by simp_all)]; simp_all [vTx, vFrm, frm0]; done)
  | (rw [txTick_end (by simp_all) (by simp_all)]; simp_all [vTx, vFrm, frm0]; done)
  | (rw [txTick_yes (by simp_all) (by simp_all)]; simp_all [vTx, vFrm, sayFrm]; done)
theorem rxbusy_i (r : Rx) (b : Bool) (q : Value) (z : Zc) (hI : RxI r) (hq : By z r.join.got q) :
  PSpec Tryz.prog 142 [vRx r q, .bool b] z fun v z' => ∃ A k D m d, v = .tuple #[vRx (rxBusy r b).1 (.slice A (rxBusy r b).1.join.got.length k), .slice D m d] ∧ By z' (rxBusy r b).1.join.got (.slice A (rxBusy r b).1.join.got.length k) ∧ Sl fRep z' (rxBusy r b).2 (.slice D m d) := by
 have hro := rxok_i r q z hI hq
 have hj := hI.join.le
 obtain ⟨A, k, rfl, hka, hB, hr⟩ := hq.form
 obtain ⟨expect, count, ⟨jl, got⟩, again, busy, dead⟩ := r
 dsimp only at *
 refine eP k142 ?_
 refine gO ?_
 refine tT ?_; refine callP (hro) rfl rfl ?_; rintro _ _ - ⟨rfl, rfl⟩; refine gO ?_
 refine tT ?_; refine callP (rxcopy_i ⟨expect, count, ⟨jl, got⟩, again, busy, dead⟩ _ z hq (by show got.length ≤ _; omega)) rfl rfl ?_; rintro v z2 hz2 ⟨A3, rfl, h3⟩; refine gO ?_
 dsimp only at h3
 have hsame : ∀ busy b dead, (busy = b ∨ dead = true) → rxBusy ⟨expect, count, ⟨jl, got⟩, again, busy, dead⟩ b = (⟨expect, count, ⟨jl, got⟩, again, busy, dead⟩, []) := fun busy b dead h => by unfold rxBusy; rw [if_pos h]
 have hturn : ∀ busy b, busy ≠ b → rxBusy ⟨expect, count, ⟨jl, got⟩, again, busy, false⟩ b = (⟨expect, count, ⟨jl, got⟩, false, b, false⟩, [sayFrm expect false false (goWait b)]) := fun busy b h => by unfold rxBusy; rw [if_neg (by simp [h])]
 by_cases he : busy = b
 ·have hb : (busy == b) = true := by simp [he]
  simp only [hb]
  refine gO ?_
  (first|refine fN ?_|exact fZ)
  rw [hsame busy b dead (.inl he)]
  exact ⟨_, _, _, _, _, rfl, h3, Sl.nil _ _ _⟩
 ·have hb : (busy == b) = false := by simp [he]
  simp only [hb]
  cases dead with
  | true =>
   refine gO ?_
   (first|refine fN ?_|exact fZ)
   rw [hsame busy b true (.inr rfl)]
   exact ⟨_, _, _, _, _, rfl, h3, Sl.nil _ _ _⟩
  | false =>
   rw [hturn busy b he]
   refine gO ?_
   (with_reducible refine joinV.id ?_; simp only [seval, go_sem])
   refine tT ?_; refine callP (gowait_i b z2) rfl rfl ?_; rintro _ _ - ⟨rfl, rfl⟩; refine gO ?_
   refine tT ?_; refine callP (say_i ⟨expect, count, ⟨jl, got⟩, false, b, false⟩ A3 got.length got.length (goWait b) false z2) rfl rfl ?_; rintro _ _ - ⟨rfl, rfl⟩; refine gO ?_
   repeat' (first | (refine And.intro ?_ ?_ <;> (try simp only [seval, go_sem])))
   all_goals refine gO ?_
   all_goals (refine FinV.frz 3 rfl rfl (fun b4 z4 hz4 hr4 => ?_)); dsimp only at hz4; simp only [seval, go_sem, Go.Proofs.YtllafcmkppmdgaaGreat.frz, subV, subC, subE, subL]
   all_goals (first|refine fN ?_|exact fZ)
   all_goals exact ⟨_, _, _, _, _, rfl, h3.mono hz4, ⟨_, _, _, rfl, Nat.le_refl _, Els.single (d := fRep) ⟨_, rfl, Sl.nil _ _ _⟩, hr4⟩⟩
theorem ends_sub {cs l1 l2 l3 : List Value} {o i : Nat} {u : Value} (e : cs = l1 ++ (l2 ++ l3)) (ho : l1.length = o) (h : l2[i]? = some u) : cs[o + i]? = some u := by
 subst e; subst ho
 have hi : i < l2.length := (List.getElem?_eq_some_iff.1 h).1
 rw [List.getElem?_append_right (by omega), Nat.add_sub_cancel_left, List.getElem?_append_left hi]
 exact h
abbrev txL (e : End) (m : EndM) : List Value := [.int .i64 e.tx.next, .int .i64 e.tx.acked, .slice m.fA e.tx.flight.length m.fC, .int .i64 e.tx.sent, .slice m.qA e.tx.queue.length m.qC, .bool e.tx.asks, .int .i64 e.tx.tries, .bool e.tx.held, .int .i64 e.tx.count, .bool e.tx.dead]
theorem bynum_put {g : Bool} {w : Wld} {who : Nat} {e : Evt} (hk : e.kind = 1) : byNum g w who e = if (endAt w who).put.length < 60 then setEnd w who { endAt w who with tx := (txPut w.cfg (endAt w who).tx e.data).1, put := if (txPut w.cfg (endAt w who).tx e.data).2 then (endAt w who).put ++ [e.data] else (endAt w who).put } else w := by unfold byNum; rw [if_pos hk]
theorem num_put0 (b : Nat) (c : Cfg) (link : Int) (e0 e1 : End) (n0 n1 : List Msg) (m : WM) (ev : Evt) (v : Value) (z : Zc) (hv : By z ev.data v) (hs : ev.data.length ≤ 100000) (hR : WldB z e0 e1 n0 n1 m) (hI : EndI c e0) (hw : ev.who = 0) (hk : ev.kind = 1) :
  Spec Tryz.prog 107 [.pointer (some ⟨b, 0, none⟩), vEvt ev v] z (wldP b c link e0 e1 n0 n1 m) fun _ z' A' => WldQ c (byNum false ⟨c, [e0, e1], [n0, n1], link⟩ 0 ev) b z' A' := by
 obtain ⟨kind, who, at_, vv, data⟩ := ev
 dsimp only at *
 subst hw
 subst hk
 obtain ⟨Av, kv, rfl, hkv, hBv, hrv⟩ := hv.form
 refine eQ kyI k107 ?_
 refine vsI.atR 10 rfl fun hE => ?_
 have hE := hE (by omega)
 refine gO ?_
 ((first | refine ⟨⟨by omega, hE⟩, ?_⟩ | refine ⟨hE, ?_⟩); (try simp only [seval, go_sem]))
 refine gO ?_
 (refine ldF.one _ (RdS.cell 10 rfl rfl) ?_; refine gO ?_)
 have hbn : byNum false ⟨c, [e0, e1], [n0, n1], link⟩ 0 ⟨1, 0, at_, vv, data⟩ = if e0.put.length < 60 then ⟨c, [e0, e1].set 0 { e0 with tx := (txPut c e0.tx data).1, put := if (txPut c e0.tx data).2 then e0.put ++ [data] else e0.put }, [n0, n1], link⟩ else ⟨c, [e0, e1], [n0, n1], link⟩ := bynum_put rfl
 rw [hbn]
 clear hbn
 by_cases h60 : e0.put.length < 60
 ·have d1 : decide ((e0.put.length : Int) < 60) = true := decide_eq_true (by omega)
  rw [if_pos h60]
  simp only [d1]
  refine gO ?_
  refine ldF.agg (sz := 10) (txL e0 m.m0) rfl (RdS.part 10 rfl (fun i u hu => ends_sub (l1 := (endsC e0 e1 m.m0 m.m1).take (28 * 0)) (l3 := (endsC e0 e1 m.m0 m.m1).drop (28 * 0 + 10)) rfl rfl hu)) ?_
  refine gO ?_
  have hc := txput_i c e0.tx data _ _ _ z hI.tx hR.e0.fl hR.e0.qu hv hs
  generalize txPut c e0.tx data = tp at *
  obtain ⟨⟨next, acked, fl, sent, qu, asks, tries, held, count, dead⟩, ok⟩ := tp
  dsimp only at hc
  refine tT ?_; refine callP (hc) rfl rfl ?_; rintro u z1 hz1 ⟨fA, fC, qA, qC, rfl, hf1, hq1⟩; refine gO ?_
  have hR1 : WldB z1 e0 e1 n0 n1 m := hR.mono hz1
  (refine stoV_row 10 rfl rfl rfl rfl rfl rfl rfl (by rw [endsC_len]; simp) ?_; simp only [seval, go_sem, ends_tx0]; refine gO ?_)
  have hR2 : WldB z1 { e0 with tx := ⟨next, acked, fl, sent, qu, asks, tries, held, count, dead⟩ } e1 n0 n1 { m with m0 := { m.m0 with fA := fA, fC := fC, qA := qA, qC := qC } } := ⟨{ hR1.e0 with fl := hf1, qu := hq1 }, hR1.e1, hR.n0, hR.n1⟩
  cases ok
  ·refine gO ?_
   refine wF1 ?_
   exact ⟨_, _, n0, n1, { m with m0 := { m.m0 with fA := fA, fC := fC, qA := qA, qC := qC } }, link, rfl, rfl, hR2⟩
  ·refine gO ?_
   (with_reducible refine joinV.id ?_; simp only [seval, go_sem])
   repeat' (first | (refine And.intro ?_ ?_ <;> (try simp only [seval, go_sem])) | (refine ldF.one _ (RdS.cell 10 rfl rfl) ?_; refine gO ?_))
   all_goals refine tT ?_; refine callP (cloneBy data _ z1 (hv.mono hz1) (by omega)) rfl rfl ?_; rintro v3 z3 hz3 ⟨A5, rfl, hB5, hr5⟩; refine gO ?_
   repeat' (first | (refine And.intro ?_ ?_ <;> (try simp only [seval, go_sem])) | (refine ldF.one _ (RdS.cell 10 rfl rfl) ?_; refine gO ?_))
   all_goals refine aT ?_; (refine appM_newF 22 atyS rfl rfl rfl rfl rfl rfl rfl (by simp [Value.oneCell']) (by omega) (fun A6 c6 hc6 hat6 => ?_)); refine gO ?_
   all_goals (refine stoV_row 10 rfl rfl rfl rfl rfl rfl rfl (by rw [endsC_len]; simp) ?_; refine gO ?_)
   all_goals refine wF1 ?_
   all_goals rw [ends_put0 _ _ _ _ (e0.put ++ [data]) _ _ _ (by simp)]
   all_goals have hR3 := hR2.mono hz3
   all_goals refine ⟨_, _, n0, n1, { m with m0 := { m.m0 with fA := fA, fC := fC, qA := qA, qC := qC, pA := A6, pC := c6, pV := m.m0.pV ++ [.slice A5 data.length data.length] } }, link, rfl, ?_, ⟨{ hR3.e0 with pu := hR3.e0.pu.append (Els.single (d := sduRep) ⟨_, rfl, By.mk (Nat.le_refl _) hB5 hr5⟩), pc := by simp; exact hc6 }, hR3.e1, hR.n0, hR.n1⟩⟩
   all_goals simp only [wldP, wldL, if_true, List.length_append, List.length_singleton]
   all_goals rfl
 ·have d1 : decide ((e0.put.length : Int) < 60) = false := decide_eq_false (by omega)
  rw [if_neg h60]
  simp only [d1]
  refine gO ?_
  refine wF1 ?_
  exact WldQ.mk hR
theorem num_put1 (b : Nat) (c : Cfg) (link : Int) (e0 e1 : End) (n0 n1 : List Msg) (m : WM) (ev : Evt) (v : Value) (z : Zc) (hv : By z ev.data v) (hs : ev.data.length ≤ 100000) (hR : WldB z e0 e1 n0 n1 m) (hI : EndI c e1) (hw : ev.who = 1) (hk : ev.kind = 1) :
  Spec Tryz.prog 107 [.pointer (some ⟨b, 0, none⟩), vEvt ev v] z (wldP b c link e0 e1 n0 n1 m) fun _ z' A' => WldQ c (byNum false ⟨c, [e0, e1], [n0, n1], link⟩ 1 ev) b z' A' := by
 obtain ⟨kind, who, at_, vv, data⟩ := ev
 dsimp only at *
 subst hw
 subst hk
 obtain ⟨Av, kv, rfl, hkv, hBv, hrv⟩ := hv.form
 refine eQ kyI k107 ?_
 refine vsI.atR 10 rfl fun hE => ?_
 have hE := hE (by omega)
 refine gO ?_
 ((first | refine ⟨⟨by omega, hE⟩, ?_⟩ | refine ⟨hE, ?_⟩); (try simp only [seval, go_sem]))
 refine gO ?_
 (refine ldF.one _ (RdS.cell 10 rfl rfl) ?_; refine gO ?_)
 have hbn : byNum false ⟨c, [e0, e1], [n0, n1], link⟩ 1 ⟨1, 1, at_, vv, data⟩ = if e1.put.length < 60 then ⟨c, [e0, e1].set 1 { e1 with tx := (txPut c e1.tx data).1, put := if (txPut c e1.tx data).2 then e1.put ++ [data] else e1.put }, [n0, n1], link⟩ else ⟨c, [e0, e1], [n0, n1], link⟩ := bynum_put rfl
 rw [hbn]
 clear hbn
 by_cases h60 : e1.put.length < 60
 ·have d1 : decide ((e1.put.length : Int) < 60) = true := decide_eq_true (by omega)
  rw [if_pos h60]
  simp only [d1]
  refine gO ?_
  refine ldF.agg (sz := 10) (txL e1 m.m1) rfl (RdS.part 10 rfl (fun i u hu => ends_sub (l1 := (endsC e0 e1 m.m0 m.m1).take (28 * 1)) (l3 := (endsC e0 e1 m.m0 m.m1).drop (28 * 1 + 10)) rfl rfl hu)) ?_
  refine gO ?_
  have hc := txput_i c e1.tx data _ _ _ z hI.tx hR.e1.fl hR.e1.qu hv hs
  generalize txPut c e1.tx data = tp at *
  obtain ⟨⟨next, acked, fl, sent, qu, asks, tries, held, count, dead⟩, ok⟩ := tp
  dsimp only at hc
  refine tT ?_; refine callP (hc) rfl rfl ?_; rintro u z1 hz1 ⟨fA, fC, qA, qC, rfl, hf1, hq1⟩; refine gO ?_
  have hR1 : WldB z1 e0 e1 n0 n1 m := hR.mono hz1
  (refine stoV_row 10 rfl rfl rfl rfl rfl rfl rfl (by rw [endsC_len]; simp) ?_; simp only [seval, go_sem, ends_tx1]; refine gO ?_)
  have hR2 : WldB z1 e0 { e1 with tx := ⟨next, acked, fl, sent, qu, asks, tries, held, count, dead⟩ } n0 n1 { m with m1 := { m.m1 with fA := fA, fC := fC, qA := qA, qC := qC } } := ⟨hR1.e0, { hR1.e1 with fl := hf1, qu := hq1 }, hR.n0, hR.n1⟩
  cases ok
  ·refine gO ?_
   refine wF1 ?_
   exact ⟨_, _, n0, n1, { m with m1 := { m.m1 with fA := fA, fC := fC, qA := qA, qC := qC } }, link, rfl, rfl, hR2⟩
  ·refine gO ?_
   (with_reducible refine joinV.id ?_; simp only [seval, go_sem])
   repeat' (first | (refine And.intro ?_ ?_ <;> (try simp only [seval, go_sem])) | (refine ldF.one _ (RdS.cell 10 rfl rfl) ?_; refine gO ?_))
   all_goals refine tT ?_; refine callP (cloneBy data _ z1 (hv.mono hz1) (by omega)) rfl rfl ?_; rintro v3 z3 hz3 ⟨A5, rfl, hB5, hr5⟩; refine gO ?_
   repeat' (first | (refine And.intro ?_ ?_ <;> (try simp only [seval, go_sem])) | (refine ldF.one _ (RdS.cell 10 rfl rfl) ?_; refine gO ?_))
   all_goals refine aT ?_; (refine appM_newF 32 atyS rfl rfl rfl rfl rfl rfl rfl (by simp [Value.oneCell']) (by omega) (fun A6 c6 hc6 hat6 => ?_)); refine gO ?_
   all_goals (refine stoV_row 10 rfl rfl rfl rfl rfl rfl rfl (by rw [endsC_len]; simp) ?_; refine gO ?_)
   all_goals refine wF1 ?_
   all_goals rw [ends_put1 _ _ _ _ (e1.put ++ [data]) _ _ _ (by simp)]
   all_goals have hR3 := hR2.mono hz3
   all_goals refine ⟨_, _, n0, n1, { m with m1 := { m.m1 with fA := fA, fC := fC, qA := qA, qC := qC, pA := A6, pC := c6, pV := m.m1.pV ++ [.slice A5 data.length data.length] } }, link, rfl, ?_, ⟨hR3.e0, { hR3.e1 with pu := hR3.e1.pu.append (Els.single (d := sduRep) ⟨_, rfl, By.mk (Nat.le_refl _) hB5 hr5⟩), pc := by simp; exact hc6 }, hR.n0, hR.n1⟩⟩
   all_goals simp only [wldP, wldL, if_true, List.length_append, List.length_singleton]
   all_goals rfl
 ·have d1 : decide ((e1.put.length : Int) < 60) = false := decide_eq_false (by omega)
  rw [if_neg h60]
  simp only [d1]
  refine gO ?_
  refine wF1 ?_
  exact WldQ.mk hR
theorem bynum_send {g : Bool} {w : Wld} {who : Nat} {e : Evt} (hk : e.kind = 2) : byNum g w who e = if (netAt w (1 - who)).length < 30 then sayO (setEnd w who { endAt w who with tx := (txSend g w.cfg (endAt w who).tx (endAt w who).rx.expect).1 }) who (txSend g w.cfg (endAt w who).tx (endAt w who).rx.expect).2 else w := by unfold byNum; rw [if_neg (by omega), if_pos hk]
theorem num_send0 (b : Nat) (c : Cfg) (link : Int) (e0 e1 : End) (n0 n1 : List Msg) (m : WM) (ev : Evt) (v : Value) (z : Zc) (hv : By z ev.data v) (hR : WldB z e0 e1 n0 n1 m) (hI : EndI c e0) (h0 : n0.length ≤ 30) (h1 : n1.length ≤ 30) (hw : ev.who = 0) (hk : ev.kind = 2) :
  Spec Tryz.prog 107 [.pointer (some ⟨b, 0, none⟩), vEvt ev v] z (wldP b c link e0 e1 n0 n1 m) fun _ z' A' => WldQ c (byNum false ⟨c, [e0, e1], [n0, n1], link⟩ 0 ev) b z' A' := by
 obtain ⟨kind, who, at_, vv, data⟩ := ev
 dsimp only at *
 subst hw
 subst hk
 have hx7 := hI.rx.expect
 obtain ⟨Av, kv, rfl, hkv, hBv, hrv⟩ := hv.form
 have hbn : byNum false ⟨c, [e0, e1], [n0, n1], link⟩ 0 ⟨2, 0, at_, vv, data⟩ = if n1.length < 30 then sayO ⟨c, [e0, e1].set 0 { e0 with tx := (txSend false c e0.tx e0.rx.expect).1 }, [n0, n1], link⟩ 0 (txSend false c e0.tx e0.rx.expect).2 else ⟨c, [e0, e1], [n0, n1], link⟩ := bynum_send rfl
 rw [hbn]
 clear hbn
 refine eQ kyI k107 ?_
 refine vsI.atR 10 rfl fun hE => ?_
 have hE := hE (by omega)
 refine gO ?_
 ((first | refine ⟨⟨by omega, hE⟩, ?_⟩ | refine ⟨hE, ?_⟩); (try simp only [seval, go_sem]))
 refine gO ?_
 simp only [wr10]
 (refine callT.give 90 0 2001 rfl rfl (fun bb => ?_)); simp only [seval, go_sem, giveSt, subV, subC, subE, subL]
 refine wD ?_
 refine tT ?_; refine callW 91 (room1 bb c link e0 e1 n0 n1 m z (by omega)) rfl rfl rfl rfl ?_; rintro v2 z2 A2 hz2 ⟨rfl, rfl, rfl⟩; (try simp only [seval, go_sem])
 (refine vsI.tf (Tf.open' 91 [92, 10, 11, 22, 23, 32, 33, 40, 41, 50, 51] rfl rfl rfl) ?_); simp only [seval, go_sem, zipL]
 (refine vsI.take' [0] 92 0 2001 rfl rfl rfl ?_); simp only [seval, go_sem, takeSt', unAt, unV, vals]; refine gO ?_
 by_cases h30 : n1.length < 30
 ·rw [if_pos h30]
  simp only [decide_eq_true h30]
  refine gO ?_
  (with_reducible refine joinV.id ?_; simp only [seval, go_sem])
  have hfr := fun f => @txSend_frm false c e0.tx e0.rx.expect f hI.tx hI.low hx7
  have hc := txsend_i c e0.tx e0.rx.expect _ _ z hI.tx hI.low hR.e0.fl hR.e0.qu hx7
  generalize txSend false c e0.tx e0.rx.expect = tp at hc hfr ⊢
  obtain ⟨⟨next, acked, fl, sent, qu, asks, tries, held, count, dead⟩, o⟩ := tp
  dsimp only at hc hfr ⊢
  repeat' (first | (refine And.intro ?_ ?_ <;> (try simp only [seval, go_sem])) | (refine ldF.one _ (RdS.cell 10 rfl rfl) ?_; refine gO ?_) | (refine ldF.agg (sz := 10) (txL e0 m.m0) rfl (RdS.part 10 rfl (fun i u hu => ends_sub (l1 := (endsC e0 e1 m.m0 m.m1).take (28 * 0)) (l3 := (endsC e0 e1 m.m0 m.m1).drop (28 * 0 + 10)) rfl rfl hu)) ?_; refine gO ?_))
  all_goals refine tT ?_; refine callP (hc) rfl rfl ?_; rintro u z1 hz1 ⟨xA, xn, fA, fC, qA, qC, rfl, hf1, hq1, hx1⟩; refine gO ?_
  all_goals have hR1 : WldB z1 e0 e1 n0 n1 m := hR.mono hz1
  all_goals (refine stoV_row 10 rfl rfl rfl rfl rfl rfl rfl (by rw [endsC_len]; simp) ?_; simp only [seval, go_sem, ends_tx0]; refine gO ?_)
  all_goals have hR2 : WldB z1 { e0 with tx := ⟨next, acked, fl, sent, qu, asks, tries, held, count, dead⟩ } e1 n0 n1 { m with m0 := { m.m0 with fA := fA, fC := fC, qA := qA, qC := qC } } := ⟨{ hR1.e0 with fl := hf1, qu := hq1 }, hR1.e1, hR.n0, hR.n1⟩
  all_goals (refine callT.give 93 0 2003 rfl rfl (fun b3 => ?_)); simp only [seval, go_sem, giveSt, subV, subC, subE, subL]
  all_goals refine wC ?_
  all_goals refine tT ?_; refine callW 94 (sayif_p0 b3 c link { e0 with tx := ⟨next, acked, fl, sent, qu, asks, tries, held, count, dead⟩ } e1 n0 n1 { m with m0 := { m.m0 with fA := fA, fC := fC, qA := qA, qC := qC } } o _ z1 hR2 hx1 hfr h0 h1) rfl rfl rfl rfl ?_; rintro v3 z3 A3 hz3 ⟨f0, f1, g0, g1, m3, link3, hw3, rfl, hR3⟩; refine gO ?_
  all_goals refine wO ?_
  all_goals refine wF5 ?_
  all_goals exact ⟨f0, f1, g0, g1, m3, link3, hw3, rfl, hR3⟩
 ·rw [if_neg h30]
  simp only [decide_eq_false h30]
  refine gO ?_
  refine wF3 ?_
  exact WldQ.mk hR
theorem num_send1 (b : Nat) (c : Cfg) (link : Int) (e0 e1 : End) (n0 n1 : List Msg) (m : WM) (ev : Evt) (v : Value) (z : Zc) (hv : By z ev.data v) (hR : WldB z e0 e1 n0 n1 m) (hI : EndI c e1) (h0 : n0.length ≤ 30) (h1 : n1.length ≤ 30) (hw : ev.who = 1) (hk : ev.kind = 2) :
  Spec Tryz.prog 107 [.pointer (some ⟨b, 0, none⟩), vEvt ev v] z (wldP b c link e0 e1 n0 n1 m) fun _ z' A' => WldQ c (byNum false ⟨c, [e0, e1], [n0, n1], link⟩ 1 ev) b z' A' := by
 obtain ⟨kind, who, at_, vv, data⟩ := ev
 dsimp only at *
 subst hw
 subst hk
 have hx7 := hI.rx.expect
 obtain ⟨Av, kv, rfl, hkv, hBv, hrv⟩ := hv.form
 have hbn : byNum false ⟨c, [e0, e1], [n0, n1], link⟩ 1 ⟨2, 1, at_, vv, data⟩ = if n0.length < 30 then sayO ⟨c, [e0, e1].set 1 { e1 with tx := (txSend false c e1.tx e1.rx.expect).1 }, [n0, n1], link⟩ 1 (txSend false c e1.tx e1.rx.expect).2 else ⟨c, [e0, e1], [n0, n1], link⟩ := bynum_send rfl
 rw [hbn]
 clear hbn
 refine eQ kyI k107 ?_
 refine vsI.atR 10 rfl fun hE => ?_
 have hE := hE (by omega)
 refine gO ?_
 ((first | refine ⟨⟨by omega, hE⟩, ?_⟩ | refine ⟨hE, ?_⟩); (try simp only [seval, go_sem]))
 refine gO ?_
 simp only [wr11]
 (refine callT.give 90 0 2001 rfl rfl (fun bb => ?_)); simp only [seval, go_sem, giveSt, subV, subC, subE, subL]
 refine wD ?_
 refine tT ?_; refine callW 91 (room0 bb c link e0 e1 n0 n1 m z (by omega)) rfl rfl rfl rfl ?_; rintro v2 z2 A2 hz2 ⟨rfl, rfl, rfl⟩; (try simp only [seval, go_sem])
 (refine vsI.tf (Tf.open' 91 [92, 10, 11, 22, 23, 32, 33, 40, 41, 50, 51] rfl rfl rfl) ?_); simp only [seval, go_sem, zipL]
 (refine vsI.take' [0] 92 0 2001 rfl rfl rfl ?_); simp only [seval, go_sem, takeSt', unAt, unV, vals]; refine gO ?_
 by_cases h30 : n0.length < 30
 ·rw [if_pos h30]
  simp only [decide_eq_true h30]
  refine gO ?_
  (with_reducible refine joinV.id ?_; simp only [seval, go_sem])
  have hfr := fun f => @txSend_frm false c e1.tx e1.rx.expect f hI.tx hI.low hx7
  have hc := txsend_i c e1.tx e1.rx.expect _ _ z hI.tx hI.low hR.e1.fl hR.e1.qu hx7
  generalize txSend false c e1.tx e1.rx.expect = tp at hc hfr ⊢
  obtain ⟨⟨next, acked, fl, sent, qu, asks, tries, held, count, dead⟩, o⟩ := tp
  dsimp only at hc hfr ⊢
  repeat' (first | (refine And.intro ?_ ?_ <;> (try simp only [seval, go_sem])) | (refine ldF.one _ (RdS.cell 10 rfl rfl) ?_; refine gO ?_) | (refine ldF.agg (sz := 10) (txL e1 m.m1) rfl (RdS.part 10 rfl (fun i u hu => ends_sub (l1 := (endsC e0 e1 m.m0 m.m1).take (28 * 1)) (l3 := (endsC e0 e1 m.m0 m.m1).drop (28 * 1 + 10)) rfl rfl hu)) ?_; refine gO ?_))
  all_goals refine tT ?_; refine callP (hc) rfl rfl ?_; rintro u z1 hz1 ⟨xA, xn, fA, fC, qA, qC, rfl, hf1, hq1, hx1⟩; refine gO ?_
  all_goals have hR1 : WldB z1 e0 e1 n0 n1 m := hR.mono hz1
  all_goals (refine stoV_row 10 rfl rfl rfl rfl rfl rfl rfl (by rw [endsC_len]; simp) ?_; simp only [seval, go_sem, ends_tx1]; refine gO ?_)
  all_goals have hR2 : WldB z1 e0 { e1 with tx := ⟨next, acked, fl, sent, qu, asks, tries, held, count, dead⟩ } n0 n1 { m with m1 := { m.m1 with fA := fA, fC := fC, qA := qA, qC := qC } } := ⟨hR1.e0, { hR1.e1 with fl := hf1, qu := hq1 }, hR.n0, hR.n1⟩
  all_goals (refine callT.give 93 0 2003 rfl rfl (fun b3 => ?_)); simp only [seval, go_sem, giveSt, subV, subC, subE, subL]
  all_goals refine wC ?_
  all_goals refine tT ?_; refine callW 94 (sayif_p1 b3 c link e0 { e1 with tx := ⟨next, acked, fl, sent, qu, asks, tries, held, count, dead⟩ } n0 n1 { m with m1 := { m.m1 with fA := fA, fC := fC, qA := qA, qC := qC } } o _ z1 hR2 hx1 hfr h0 h1) rfl rfl rfl rfl ?_; rintro v3 z3 A3 hz3 ⟨f0, f1, g0, g1, m3, link3, hw3, rfl, hR3⟩; refine gO ?_
  all_goals refine wO ?_
  all_goals refine wF5 ?_
  all_goals exact ⟨f0, f1, g0, g1, m3, link3, hw3, rfl, hR3⟩
 ·rw [if_neg h30]
  simp only [decide_eq_false h30]
  refine gO ?_
  refine wF3 ?_
  exact WldQ.mk hR
theorem bynum_tick {g : Bool} {w : Wld} {who : Nat} {e : Evt} (hk : e.kind = 3) : byNum g w who e = sayO (setEnd w who { endAt w who with tx := (txTick w.cfg (endAt w who).tx (endAt w who).rx.expect (endAt w who).rx.busy).1 }) who (txTick w.cfg (endAt w who).tx (endAt w who).rx.expect (endAt w who).rx.busy).2 := by unfold byNum; rw [if_neg (by omega), if_neg (by omega), if_pos hk]
theorem num_tick0 (b : Nat) (c : Cfg) (link : Int) (e0 e1 : End) (n0 n1 : List Msg) (m : WM) (ev : Evt) (v : Value) (z : Zc) (hv : By z ev.data v) (hR : WldB z e0 e1 n0 n1 m) (hI : EndI c e0) (h0 : n0.length ≤ 30) (h1 : n1.length ≤ 30) (hw : ev.who = 0) (hk : ev.kind = 3) :
  Spec Tryz.prog 107 [.pointer (some ⟨b, 0, none⟩), vEvt ev v] z (wldP b c link e0 e1 n0 n1 m) fun _ z' A' => WldQ c (byNum false ⟨c, [e0, e1], [n0, n1], link⟩ 0 ev) b z' A' := by
 obtain ⟨kind, who, at_, vv, data⟩ := ev
 dsimp only at *
 subst hw
 subst hk
 have hx7 := hI.rx.expect
 obtain ⟨Av, kv, rfl, hkv, hBv, hrv⟩ := hv.form
 have hbn : byNum false ⟨c, [e0, e1], [n0, n1], link⟩ 0 ⟨3, 0, at_, vv, data⟩ = sayO ⟨c, [e0, e1].set 0 { e0 with tx := (txTick c e0.tx e0.rx.expect e0.rx.busy).1 }, [n0, n1], link⟩ 0 (txTick c e0.tx e0.rx.expect e0.rx.busy).2 := bynum_tick rfl
 rw [hbn]
 clear hbn
 have hfr := fun f => @txTick_frm c e0.tx e0.rx.expect e0.rx.busy f hx7
 have hal := @txTick_alike c e0.tx e0.rx.expect e0.rx.busy
 have hc := txtick_i c e0.tx e0.rx.expect e0.rx.busy _ _ z hI.tx hR.e0.fl hR.e0.qu hx7
 have hnil : ((txTick c e0.tx e0.rx.expect e0.rx.busy).2.getD frm0).data = [] := by unfold txTick; split; rfl; split <;> rfl
 generalize txTick c e0.tx e0.rx.expect e0.rx.busy = tp at hc hfr hal hnil ⊢
 obtain ⟨⟨next, acked, fl, sent, qu, asks, tries, held, count, dead⟩, o⟩ := tp
 dsimp only at hc hfr hal hnil ⊢
 have hxd : ∀ z1, By z1 (o.getD frm0).data (.slice none 0 0) := fun z1 => by rw [hnil]; exact Sl.nil _ _ _
 obtain ⟨-, rfl, rfl⟩ := hal
 refine eQ kyI k107 ?_
 refine vsI.atR 10 rfl fun hE => ?_
 have hE := hE (by omega)
 refine gO ?_
 ((first | refine ⟨⟨by omega, hE⟩, ?_⟩ | refine ⟨hE, ?_⟩); (try simp only [seval, go_sem]))
 refine gO ?_
 (with_reducible refine joinV.id ?_; simp only [seval, go_sem])
 repeat' (first | (refine And.intro ?_ ?_ <;> (try simp only [seval, go_sem])) | (refine ldF.one _ (RdS.cell 10 rfl rfl) ?_; refine gO ?_) | (refine ldF.agg (sz := 10) (txL e0 m.m0) rfl (RdS.part 10 rfl (fun i u hu => ends_sub (l1 := (endsC e0 e1 m.m0 m.m1).take (28 * 0)) (l3 := (endsC e0 e1 m.m0 m.m1).drop (28 * 0 + 10)) rfl rfl hu)) ?_; refine gO ?_))
 all_goals refine tT ?_; refine callP (hc) rfl rfl ?_; rintro u z1 hz1 ⟨fA, fC, qA, qC, rfl, hf1, hq1⟩; refine gO ?_
 all_goals have hR1 : WldB z1 e0 e1 n0 n1 m := hR.mono hz1
 all_goals (refine stoV_row 10 rfl rfl rfl rfl rfl rfl rfl (by rw [endsC_len]; simp) ?_; simp only [seval, go_sem, ends_tx0]; refine gO ?_)
 all_goals have hR2 : WldB z1 { e0 with tx := ⟨next, acked, e0.tx.flight, sent, e0.tx.queue, asks, tries, held, count, dead⟩ } e1 n0 n1 { m with m0 := { m.m0 with fA := fA, fC := fC, qA := qA, qC := qC } } := ⟨{ hR1.e0 with fl := hf1, qu := hq1 }, hR1.e1, hR.n0, hR.n1⟩
 all_goals (refine callT.give 93 0 2003 rfl rfl (fun b3 => ?_)); simp only [seval, go_sem, giveSt, subV, subC, subE, subL]
 all_goals refine wC ?_
 all_goals refine tT ?_; refine callW 94 (sayif_p0 b3 c link { e0 with tx := ⟨next, acked, e0.tx.flight, sent, e0.tx.queue, asks, tries, held, count, dead⟩ } e1 n0 n1 { m with m0 := { m.m0 with fA := fA, fC := fC, qA := qA, qC := qC } } o _ z1 hR2 (hxd z1) hfr h0 h1) rfl rfl rfl rfl ?_; rintro v3 z3 A3 hz3 ⟨f0, f1, g0, g1, m3, link3, hw3, rfl, hR3⟩; refine gO ?_
 all_goals refine wO ?_
 all_goals refine wF5 ?_
 all_goals exact ⟨f0, f1, g0, g1, m3, link3, hw3, rfl, hR3⟩
theorem num_tick1 (b : Nat) (c : Cfg) (link : Int) (e0 e1 : End) (n0 n1 : List Msg) (m : WM) (ev : Evt) (v : Value) (z : Zc) (hv : By z ev.data v) (hR : WldB z e0 e1 n0 n1 m) (hI : EndI c e1) (h0 : n0.length ≤ 30) (h1 : n1.length ≤ 30) (hw : ev.who = 1) (hk : ev.kind = 3) :
  Spec Tryz.prog 107 [.pointer (some ⟨b, 0, none⟩), vEvt ev v] z (wldP b c link e0 e1 n0 n1 m) fun _ z' A' => WldQ c (byNum false ⟨c, [e0, e1], [n0, n1], link⟩ 1 ev) b z' A' := by
 obtain ⟨kind, who, at_, vv, data⟩ := ev
 dsimp only at *
 subst hw
 subst hk
 have hx7 := hI.rx.expect
 obtain ⟨Av, kv, rfl, hkv, hBv, hrv⟩ := hv.form
 have hbn : byNum false ⟨c, [e0, e1], [n0, n1], link⟩ 1 ⟨3, 1, at_, vv, data⟩ = sayO ⟨c, [e0, e1].set 1 { e1 with tx := (txTick c e1.tx e1.rx.expect e1.rx.busy).1 }, [n0, n1], link⟩ 1 (txTick c e1.tx e1.rx.expect e1.rx.busy).2 := bynum_tick rfl
 rw [hbn]
 clear hbn
 have hfr := fun f => @txTick_frm c e1.tx e1.rx.expect e1.rx.busy f hx7
 have hal := @txTick_alike c e1.tx e1.rx.expect e1.rx.busy
 have hc := txtick_i c e1.tx e1.rx.expect e1.rx.busy _ _ z hI.tx hR.e1.fl hR.e1.qu hx7
 have hnil : ((txTick c e1.tx e1.rx.expect e1.rx.busy).2.getD frm0).data = [] := by unfold txTick; split; rfl; split <;> rfl
 generalize txTick c e1.tx e1.rx.expect e1.rx.busy = tp at hc hfr hal hnil ⊢
 obtain ⟨⟨next, acked, fl, sent, qu, asks, tries, held, count, dead⟩, o⟩ := tp
 dsimp only at hc hfr hal hnil ⊢
 have hxd : ∀ z1, By z1 (o.getD frm0).data (.slice none 0 0) := fun z1 => by rw [hnil]; exact Sl.nil _ _ _
 obtain ⟨-, rfl, rfl⟩ := hal
 refine eQ kyI k107 ?_
 refine vsI.atR 10 rfl fun hE => ?_
 have hE := hE (by omega)
 refine gO ?_
 ((first | refine ⟨⟨by omega, hE⟩, ?_⟩ | refine ⟨hE, ?_⟩); (try simp only [seval, go_sem]))
 refine gO ?_
 (with_reducible refine joinV.id ?_; simp only [seval, go_sem])
 repeat' (first | (refine And.intro ?_ ?_ <;> (try simp only [seval, go_sem])) | (refine ldF.one _ (RdS.cell 10 rfl rfl) ?_; refine gO ?_) | (refine ldF.agg (sz := 10) (txL e1 m.m1) rfl (RdS.part 10 rfl (fun i u hu => ends_sub (l1 := (endsC e0 e1 m.m0 m.m1).take (28 * 1)) (l3 := (endsC e0 e1 m.m0 m.m1).drop (28 * 1 + 10)) rfl rfl hu)) ?_; refine gO ?_))
 all_goals refine tT ?_; refine callP (hc) rfl rfl ?_; rintro u z1 hz1 ⟨fA, fC, qA, qC, rfl, hf1, hq1⟩; refine gO ?_
 all_goals have hR1 : WldB z1 e0 e1 n0 n1 m := hR.mono hz1
 all_goals (refine stoV_row 10 rfl rfl rfl rfl rfl rfl rfl (by rw [endsC_len]; simp) ?_; simp only [seval, go_sem, ends_tx1]; refine gO ?_)
 all_goals have hR2 : WldB z1 e0 { e1 with tx := ⟨next, acked, e1.tx.flight, sent, e1.tx.queue, asks, tries, held, count, dead⟩ } n0 n1 { m with m1 := { m.m1 with fA := fA, fC := fC, qA := qA, qC := qC } } := ⟨hR1.e0, { hR1.e1 with fl := hf1, qu := hq1 }, hR.n0, hR.n1⟩
 all_goals (refine callT.give 93 0 2003 rfl rfl (fun b3 => ?_)); simp only [seval, go_sem, giveSt, subV, subC, subE, subL]
 all_goals refine wC ?_
 all_goals refine tT ?_; refine callW 94 (sayif_p1 b3 c link e0 { e1 with tx := ⟨next, acked, e1.tx.flight, sent, e1.tx.queue, asks, tries, held, count, dead⟩ } n0 n1 { m with m1 := { m.m1 with fA := fA, fC := fC, qA := qA, qC := qC } } o _ z1 hR2 (hxd z1) hfr h0 h1) rfl rfl rfl rfl ?_; rintro v3 z3 A3 hz3 ⟨f0, f1, g0, g1, m3, link3, hw3, rfl, hR3⟩; refine gO ?_
 all_goals refine wO ?_
 all_goals refine wF5 ?_
 all_goals exact ⟨f0, f1, g0, g1, m3, link3, hw3, rfl, hR3⟩
abbrev rxL (e : End) (m : EndM) : List Value := [.int .i64 e.rx.expect, .int .i64 e.rx.count, .int .i64 e.rx.join.len, .slice m.jA e.rx.join.got.length m.jC, .bool e.rx.again, .bool e.rx.busy, .bool e.rx.dead]
theorem bynum_busy {g : Bool} {w : Wld} {who : Nat} {e : Evt} (hk : e.kind = 4) : byNum g w who e = says (setEnd w who { endAt w who with rx := (rxBusy (endAt w who).rx (decide (e.v = 1))).1 }) who (rxBusy (endAt w who).rx (decide (e.v = 1))).2 := by unfold byNum; rw [if_neg (by omega), if_neg (by omega), if_neg (by omega), if_pos hk]
theorem num_busy0 (b : Nat) (c : Cfg) (link : Int) (e0 e1 : End) (n0 n1 : List Msg) (m : WM) (ev : Evt) (v : Value) (z : Zc) (hv : By z ev.data v) (hR : WldB z e0 e1 n0 n1 m) (hI : EndI c e0) (h0 : n0.length ≤ 30) (h1 : n1.length ≤ 30) (hw : ev.who = 0) (hk : ev.kind = 4) :
  Spec Tryz.prog 107 [.pointer (some ⟨b, 0, none⟩), vEvt ev v] z (wldP b c link e0 e1 n0 n1 m) fun _ z' A' => WldQ c (byNum false ⟨c, [e0, e1], [n0, n1], link⟩ 0 ev) b z' A' := by
 obtain ⟨kind, who, at_, vv, data⟩ := ev
 dsimp only at *
 subst hw
 subst hk
 obtain ⟨Av, kv, rfl, hkv, hBv, hrv⟩ := hv.form
 have hbn : byNum false ⟨c, [e0, e1], [n0, n1], link⟩ 0 ⟨4, 0, at_, vv, data⟩ = says ⟨c, [e0, e1].set 0 { e0 with rx := (rxBusy e0.rx (decide (vv = 1))).1 }, [n0, n1], link⟩ 0 (rxBusy e0.rx (decide (vv = 1))).2 := bynum_busy rfl
 rw [hbn]
 clear hbn
 have hvb : (vv == 1) = decide (vv = 1) := by rw [Bool.eq_iff_iff]; simp
 have hc := rxbusy_i e0.rx (decide (vv = 1)) _ z hI.rx hR.e0.jo
 have hfr := @rxBusy_frm e0.rx (decide (vv = 1)) hI.rx
 have hln := @rxBusy_len e0.rx (decide (vv = 1))
 generalize rxBusy e0.rx (decide (vv = 1)) = tp at hc hfr hln ⊢
 obtain ⟨⟨expect, count, ⟨len, got⟩, again, busy, dead⟩, l⟩ := tp
 dsimp only at hc hfr hln ⊢
 refine eQ kyI k107 ?_
 refine vsI.atR 10 rfl fun hE => ?_
 have hE := hE (by omega)
 refine gO ?_
 ((first | refine ⟨⟨by omega, hE⟩, ?_⟩ | refine ⟨hE, ?_⟩); (try simp only [seval, go_sem]))
 refine gO ?_
 (with_reducible refine joinV.id ?_; simp only [seval, go_sem])
 simp only [hvb]
 repeat' (first | (refine And.intro ?_ ?_ <;> (try simp only [seval, go_sem])) | (refine ldF.agg (sz := 7) (rxL e0 m.m0) rfl (RdS.part 10 rfl (fun i u hu => ends_sub (l1 := (endsC e0 e1 m.m0 m.m1).take (28 * 0 + 10)) (l3 := (endsC e0 e1 m.m0 m.m1).drop (28 * 0 + 17)) rfl rfl hu)) ?_; refine gO ?_))
 all_goals refine tT ?_; refine callP (hc) rfl rfl ?_; rintro u z1 hz1 ⟨A3, k3, D3, m3, d3, rfl, h3, h4⟩; refine gO ?_
 all_goals have hR1 : WldB z1 e0 e1 n0 n1 m := hR.mono hz1
 all_goals (refine stoV_row 10 rfl rfl rfl rfl rfl rfl rfl (by rw [endsC_len]; simp) ?_; simp only [seval, go_sem, ends_rx0]; refine gO ?_)
 all_goals have hR2 : WldB z1 { e0 with rx := ⟨expect, count, ⟨len, got⟩, again, busy, dead⟩ } e1 n0 n1 { m with m0 := { m.m0 with jA := A3, jC := k3 } } := ⟨{ hR1.e0 with jo := h3 }, hR1.e1, hR.n0, hR.n1⟩
 all_goals (refine callT.give 93 0 2003 rfl rfl (fun b3 => ?_)); simp only [seval, go_sem, giveSt, subV, subC, subE, subL]
 all_goals refine wC ?_
 all_goals refine tT ?_; refine callW 94 (say_p0 b3 c link { e0 with rx := ⟨expect, count, ⟨len, got⟩, again, busy, dead⟩ } e1 n0 n1 { m with m0 := { m.m0 with jA := A3, jC := k3 } } l (.slice D3 m3 d3) z1 hR2 h4 (by omega) hfr h0 h1) rfl rfl rfl rfl ?_; rintro v3 z3 A3 hz3 ⟨f0, f1, g0, g1, m4, link3, hw3, rfl, hR3⟩; refine gO ?_
 all_goals refine wO ?_
 all_goals refine wF5 ?_
 all_goals exact ⟨f0, f1, g0, g1, m4, link3, hw3, rfl, hR3⟩
theorem num_busy1 (b : Nat) (c : Cfg) (link : Int) (e0 e1 : End) (n0 n1 : List Msg) (m : WM) (ev : Evt) (v : Value) (z : Zc) (hv : By z ev.data v) (hR : WldB z e0 e1 n0 n1 m) (hI : EndI c e1) (h0 : n0.length ≤ 30) (h1 : n1.length ≤ 30) (hw : ev.who = 1) (hk : ev.kind = 4) :
  Spec Tryz.prog 107 [.pointer (some ⟨b, 0, none⟩), vEvt ev v] z (wldP b c link e0 e1 n0 n1 m) fun _ z' A' => WldQ c (byNum false ⟨c, [e0, e1], [n0, n1], link⟩ 1 ev) b z' A' := by
 obtain ⟨kind, who, at_, vv, data⟩ := ev
 dsimp only at *
 subst hw
 subst hk
 obtain ⟨Av, kv, rfl, hkv, hBv, hrv⟩ := hv.form
 have hbn : byNum false ⟨c, [e0, e1], [n0, n1], link⟩ 1 ⟨4, 1, at_, vv, data⟩ = says ⟨c, [e0, e1].set 1 { e1 with rx := (rxBusy e1.rx (decide (vv = 1))).1 }, [n0, n1], link⟩ 1 (rxBusy e1.rx (decide (vv = 1))).2 := bynum_busy rfl
 rw [hbn]
 clear hbn
 have hvb : (vv == 1) = decide (vv = 1) := by rw [Bool.eq_iff_iff]; simp
 have hc := rxbusy_i e1.rx (decide (vv = 1)) _ z hI.rx hR.e1.jo
 have hfr := @rxBusy_frm e1.rx (decide (vv = 1)) hI.rx
 have hln := @rxBusy_len e1.rx (decide (vv = 1))
 generalize rxBusy e1.rx (decide (vv = 1)) = tp at hc hfr hln ⊢
 obtain ⟨⟨expect, count, ⟨len, got⟩, again, busy, dead⟩, l⟩ := tp
 dsimp only at hc hfr hln ⊢
 refine eQ kyI k107 ?_
 refine vsI.atR 10 rfl fun hE => ?_
 have hE := hE (by omega)
 refine gO ?_
 ((first | refine ⟨⟨by omega, hE⟩, ?_⟩ | refine ⟨hE, ?_⟩); (try simp only [seval, go_sem]))
 refine gO ?_
 (with_reducible refine joinV.id ?_; simp only [seval, go_sem])
 simp only [hvb]
 repeat' (first | (refine And.intro ?_ ?_ <;> (try simp only [seval, go_sem])) | (refine ldF.agg (sz := 7) (rxL e1 m.m1) rfl (RdS.part 10 rfl (fun i u hu => ends_sub (l1 := (endsC e0 e1 m.m0 m.m1).take (28 * 1 + 10)) (l3 := (endsC e0 e1 m.m0 m.m1).drop (28 * 1 + 17)) rfl rfl hu)) ?_; refine gO ?_))
 all_goals refine tT ?_; refine callP (hc) rfl rfl ?_; rintro u z1 hz1 ⟨A3, k3, D3, m3, d3, rfl, h3, h4⟩; refine gO ?_
 all_goals have hR1 : WldB z1 e0 e1 n0 n1 m := hR.mono hz1
 all_goals (refine stoV_row 10 rfl rfl rfl rfl rfl rfl rfl (by rw [endsC_len]; simp) ?_; simp only [seval, go_sem, ends_rx1]; refine gO ?_)
 all_goals have hR2 : WldB z1 e0 { e1 with rx := ⟨expect, count, ⟨len, got⟩, again, busy, dead⟩ } n0 n1 { m with m1 := { m.m1 with jA := A3, jC := k3 } } := ⟨hR1.e0, { hR1.e1 with jo := h3 }, hR.n0, hR.n1⟩
 all_goals (refine callT.give 93 0 2003 rfl rfl (fun b3 => ?_)); simp only [seval, go_sem, giveSt, subV, subC, subE, subL]
 all_goals refine wC ?_
 all_goals refine tT ?_; refine callW 94 (say_p1 b3 c link e0 { e1 with rx := ⟨expect, count, ⟨len, got⟩, again, busy, dead⟩ } n0 n1 { m with m1 := { m.m1 with jA := A3, jC := k3 } } l (.slice D3 m3 d3) z1 hR2 h4 (by omega) hfr h0 h1) rfl rfl rfl rfl ?_; rintro v3 z3 A3 hz3 ⟨f0, f1, g0, g1, m4, link3, hw3, rfl, hR3⟩; refine gO ?_
 all_goals refine wO ?_
 all_goals refine wF5 ?_
 all_goals exact ⟨f0, f1, g0, g1, m4, link3, hw3, rfl, hR3⟩
theorem bynum_none {g : Bool} {w : Wld} {who : Nat} {e : Evt} (hk : e.kind = 6) : byNum g w who e = w := by unfold byNum; rw [if_neg (by omega), if_neg (by omega), if_neg (by omega), if_neg (by omega), if_neg (by omega)]
theorem num_none0 (b : Nat) (c : Cfg) (link : Int) (e0 e1 : End) (n0 n1 : List Msg) (m : WM) (ev : Evt) (v : Value) (z : Zc) (hv : By z ev.data v) (hR : WldB z e0 e1 n0 n1 m) (hw : ev.who = 0) (hk : ev.kind = 6) :
  Spec Tryz.prog 107 [.pointer (some ⟨b, 0, none⟩), vEvt ev v] z (wldP b c link e0 e1 n0 n1 m) fun _ z' A' => WldQ c (byNum false ⟨c, [e0, e1], [n0, n1], link⟩ 0 ev) b z' A' := by
 rw [bynum_none hk]
 obtain ⟨kind, who, at_, vv, data⟩ := ev
 dsimp only at *
 subst hw
 subst hk
 obtain ⟨Av, kv, rfl, hkv, hBv, hrv⟩ := hv.form
 refine eQ kyI k107 ?_
 refine vsI.atR 10 rfl fun hE => ?_
 have hE := hE (by omega)
 refine gO ?_
 ((first | refine ⟨⟨by omega, hE⟩, ?_⟩ | refine ⟨hE, ?_⟩); (try simp only [seval, go_sem]))
 refine gO ?_
 refine wF3 ?_
 exact WldQ.mk hR
theorem num_none1 (b : Nat) (c : Cfg) (link : Int) (e0 e1 : End) (n0 n1 : List Msg) (m : WM) (ev : Evt) (v : Value) (z : Zc) (hv : By z ev.data v) (hR : WldB z e0 e1 n0 n1 m) (hw : ev.who = 1) (hk : ev.kind = 6) :
  Spec Tryz.prog 107 [.pointer (some ⟨b, 0, none⟩), vEvt ev v] z (wldP b c link e0 e1 n0 n1 m) fun _ z' A' => WldQ c (byNum false ⟨c, [e0, e1], [n0, n1], link⟩ 1 ev) b z' A' := by
 rw [bynum_none hk]
 obtain ⟨kind, who, at_, vv, data⟩ := ev
 dsimp only at *
 subst hw
 subst hk
 obtain ⟨Av, kv, rfl, hkv, hBv, hrv⟩ := hv.form
 refine eQ kyI k107 ?_
 refine vsI.atR 10 rfl fun hE => ?_
 have hE := hE (by omega)
 refine gO ?_
 ((first | refine ⟨⟨by omega, hE⟩, ?_⟩ | refine ⟨hE, ?_⟩); (try simp only [seval, go_sem]))
 refine gO ?_
 refine wF3 ?_
 exact WldQ.mk hR
theorem bynum_ack {g : Bool} {w : Wld} {who : Nat} {e : Evt} (hk : e.kind = 5) : byNum g w who e = if (endAt w who).rx.dead = true then w else say1 w who (rxAck (endAt w who).rx) := by unfold byNum; rw [if_neg (by omega), if_neg (by omega), if_neg (by omega), if_neg (by omega), if_pos hk]
theorem num_ack0 (b : Nat) (c : Cfg) (link : Int) (e0 e1 : End) (n0 n1 : List Msg) (m : WM) (ev : Evt) (v : Value) (z : Zc) (hv : By z ev.data v) (hR : WldB z e0 e1 n0 n1 m) (hI : EndI c e0) (h0 : n0.length ≤ 30) (h1 : n1.length ≤ 30) (hw : ev.who = 0) (hk : ev.kind = 5) :
  Spec Tryz.prog 107 [.pointer (some ⟨b, 0, none⟩), vEvt ev v] z (wldP b c link e0 e1 n0 n1 m) fun _ z' A' => WldQ c (byNum false ⟨c, [e0, e1], [n0, n1], link⟩ 0 ev) b z' A' := by
 obtain ⟨kind, who, at_, vv, data⟩ := ev
 dsimp only at *
 subst hw
 subst hk
 obtain ⟨Av, kv, rfl, hkv, hBv, hrv⟩ := hv.form
 have hbn : byNum false ⟨c, [e0, e1], [n0, n1], link⟩ 0 ⟨5, 0, at_, vv, data⟩ = if e0.rx.dead = true then ⟨c, [e0, e1], [n0, n1], link⟩ else say1 ⟨c, [e0, e1], [n0, n1], link⟩ 0 (rxAck e0.rx) := bynum_ack rfl
 rw [hbn]
 clear hbn
 have hc := rxack_i e0.rx _ z hI.rx hR.e0.jo
 refine eQ kyI k107 ?_
 refine vsI.atR 10 rfl fun hE => ?_
 have hE := hE (by omega)
 refine gO ?_
 ((first | refine ⟨⟨by omega, hE⟩, ?_⟩ | refine ⟨hE, ?_⟩); (try simp only [seval, go_sem]))
 refine gO ?_
 (refine ldF.one _ (RdS.cell 10 rfl rfl) ?_; refine gO ?_)
 cases hd : e0.rx.dead
 ·rw [if_neg (by simp)]
  try simp only [hd]
  refine gO ?_
  try simp only [hd]
  refine ldF.agg (sz := 7) (rxL e0 m.m0) rfl (RdS.part 10 rfl (fun i u hu => ends_sub (l1 := (endsC e0 e1 m.m0 m.m1).take (28 * 0 + 10)) (l3 := (endsC e0 e1 m.m0 m.m1).drop (28 * 0 + 17)) rfl rfl hu)) ?_
  refine gO ?_
  refine tT ?_; refine callP (hc) rfl rfl ?_; rintro _ _ - ⟨rfl, rfl⟩; refine gO ?_
  (first | refine callT.frz 3 rfl rfl (fun b1 z1 hz1 hr1 => ?_) | refine callM.frz 3 rfl rfl (fun b1 z1 hz1 hr1 => ?_)); dsimp only at hz1; simp only [seval, go_sem, Go.Proofs.YtllafcmkppmdgaaGreat.frz, subV, subC, subE, subL]
  have hR1 : WldB z1 e0 e1 n0 n1 m := hR.mono hz1
  (refine callT.give 93 0 2003 rfl rfl (fun b3 => ?_)); simp only [seval, go_sem, giveSt, subV, subC, subE, subL]
  refine wC ?_
  refine tT ?_; refine callW 94 (say_p0 b3 c link e0 e1 n0 n1 m [rxAck e0.rx] (.slice (some ⟨b1, 0, none⟩) 1 1) z1 hR1 ⟨_, _, _, rfl, Nat.le_refl _, Els.single (d := fRep) ⟨_, rfl, Sl.nil _ _ _⟩, hr1⟩ (by simp) (fun g hg => by rw [List.mem_singleton.1 hg]; exact ⟨sayFrm_ok hI.rx.expect rfl (goWait_02 _), by simp [rxAck, sayFrm]⟩) h0 h1) rfl rfl rfl rfl ?_; rintro v3 z3 A3 hz3 ⟨f0, f1, g0, g1, m4, link3, hw3, rfl, hR3⟩; refine gO ?_
  refine wO ?_
  refine wF5 ?_
  exact ⟨f0, f1, g0, g1, m4, link3, hw3, rfl, hR3⟩
 ·rw [if_pos rfl]
  try simp only [hd]
  refine gO ?_
  refine wF3 ?_
  exact WldQ.mk hR
theorem num_ack1 (b : Nat) (c : Cfg) (link : Int) (e0 e1 : End) (n0 n1 : List Msg) (m : WM) (ev : Evt) (v : Value) (z : Zc) (hv : By z ev.data v) (hR : WldB z e0 e1 n0 n1 m) (hI : EndI c e1) (h0 : n0.length ≤ 30) (h1 : n1.length ≤ 30) (hw : ev.who = 1) (hk : ev.kind = 5) :
  Spec Tryz.prog 107 [.pointer (some ⟨b, 0, none⟩), vEvt ev v] z (wldP b c link e0 e1 n0 n1 m) fun _ z' A' => WldQ c (byNum false ⟨c, [e0, e1], [n0, n1], link⟩ 1 ev) b z' A' := by
 obtain ⟨kind, who, at_, vv, data⟩ := ev
 dsimp only at *
 subst hw
 subst hk
 obtain ⟨Av, kv, rfl, hkv, hBv, hrv⟩ := hv.form
 have hbn : byNum false ⟨c, [e0, e1], [n0, n1], link⟩ 1 ⟨5, 1, at_, vv, data⟩ = if e1.rx.dead = true then ⟨c, [e0, e1], [n0, n1], link⟩ else say1 ⟨c, [e0, e1], [n0, n1], link⟩ 1 (rxAck e1.rx) := bynum_ack rfl
 rw [hbn]
 clear hbn
 have hc := rxack_i e1.rx _ z hI.rx hR.e1.jo
 refine eQ kyI k107 ?_
 refine vsI.atR 10 rfl fun hE => ?_
 have hE := hE (by omega)
 refine gO ?_
 ((first | refine ⟨⟨by omega, hE⟩, ?_⟩ | refine ⟨hE, ?_⟩); (try simp only [seval, go_sem]))
 refine gO ?_
 (refine ldF.one _ (RdS.cell 10 rfl rfl) ?_; refine gO ?_)
 cases hd : e1.rx.dead
 ·rw [if_neg (by simp)]
  try simp only [hd]
  refine gO ?_
  try simp only [hd]
  refine ldF.agg (sz := 7) (rxL e1 m.m1) rfl (RdS.part 10 rfl (fun i u hu => ends_sub (l1 := (endsC e0 e1 m.m0 m.m1).take (28 * 1 + 10)) (l3 := (endsC e0 e1 m.m0 m.m1).drop (28 * 1 + 17)) rfl rfl hu)) ?_
  refine gO ?_
  refine tT ?_; refine callP (hc) rfl rfl ?_; rintro _ _ - ⟨rfl, rfl⟩; refine gO ?_
  (first | refine callT.frz 3 rfl rfl (fun b1 z1 hz1 hr1 => ?_) | refine callM.frz 3 rfl rfl (fun b1 z1 hz1 hr1 => ?_)); dsimp only at hz1; simp only [seval, go_sem, Go.Proofs.YtllafcmkppmdgaaGreat.frz, subV, subC, subE, subL]
  have hR1 : WldB z1 e0 e1 n0 n1 m := hR.mono hz1
  (refine callT.give 93 0 2003 rfl rfl (fun b3 => ?_)); simp only [seval, go_sem, giveSt, subV, subC, subE, subL]
  refine wC ?_
  refine tT ?_; refine callW 94 (say_p1 b3 c link e0 e1 n0 n1 m [rxAck e1.rx] (.slice (some ⟨b1, 0, none⟩) 1 1) z1 hR1 ⟨_, _, _, rfl, Nat.le_refl _, Els.single (d := fRep) ⟨_, rfl, Sl.nil _ _ _⟩, hr1⟩ (by simp) (fun g hg => by rw [List.mem_singleton.1 hg]; exact ⟨sayFrm_ok hI.rx.expect rfl (goWait_02 _), by simp [rxAck, sayFrm]⟩) h0 h1) rfl rfl rfl rfl ?_; rintro v3 z3 A3 hz3 ⟨f0, f1, g0, g1, m4, link3, hw3, rfl, hR3⟩; refine gO ?_
  refine wO ?_
  refine wF5 ?_
  exact ⟨f0, f1, g0, g1, m4, link3, hw3, rfl, hR3⟩
 ·rw [if_pos rfl]
  try simp only [hd]
  refine gO ?_
  refine wF3 ?_
  exact WldQ.mk hR
end Go.Proofs.YtllafcmkppmdgaaGreat
