/- Frames go on their way, by the program. · A frame goes on its way, if there is one, by the program. · Who asks, and who is busy, by the program. · What happens to one by numbers, by the program. · One sends by numbers, by the program. · One asks, is busy, or says how far all has come, by numbers, by the program. · One is busy, by numbers, by the program. · One takes a message for credits, by the program's world. · One sends, or grants, for credits, by the program's world. · One grants credits, by the program's world. · What does nothing for credits, by the program's world. · One hears the first frame on its way to it, by the program. -/
import Derived.Test.YtpblmlaahapohaaGreatD16
import Derived.Test.YtpblmlaahapohaaGreatD4
import Derived.Test.YtpblmlaahapohaaGreatD7
import Derived.Test.YtpblmlaahapohaaGreatD15
import Derived.Test.YtpblmlaahapohaaGreatD12
import Derived.Test.YtpblmlaahapohaaGreatD14
namespace Go.Proofs.YtpblmlaahapohaaGreat
open Go.RowKit
set_option linter.unusedVariables false
set_option linter.unusedSimpArgs false
set_option maxRecDepth 100000
set_option maxHeartbeats 2000000
abbrev wldE (c : Cfg) (link : Int) (m : WM) : List SC := [.v (.int .i64 c.mode), .v (.int .i64 c.win), .v (.int .i64 c.mps), .v (.int .i64 c.mtu), .v (.int .i64 c.tri), .v (.slice m.E 2 m.EC), .v (.slice m.N 2 m.NC), .v (.int .i64 link)]
abbrev wldK (b : Nat) (c : Cfg) (link : Int) (e0 e1 : End) (n0 n1 : List Msg) (m : WM) : Ents := [(0, .cells tyW (wldE c link m)), (2000, .link 0 b), (10, .own (rowA tyE 28 (.slice m.E 2 m.EC) 2 (endsC e0 e1 m.m0 m.m1))), (11, .own (rowA tyN 1 (.slice m.N 2 m.NC) 2 [.slice m.n0.A n0.length m.n0.C, .slice m.n1.A n1.length m.n1.C])),
  (22, .own (rowA tyS 1 (.slice m.m0.pA e0.put.length m.m0.pC) e0.put.length m.m0.pV)), (23, .own (rowA tyS 1 (.slice m.m0.gA e0.got.length m.m0.gC) e0.got.length m.m0.gV)), (32, .own (rowA tyS 1 (.slice m.m1.pA e1.put.length m.m1.pC) e1.put.length m.m1.pV)), (33, .own (rowA tyS 1 (.slice m.m1.gA e1.got.length m.m1.gC) e1.got.length m.m1.gV)),
  (40, .own (rowA tyM 2 (.slice m.n0.A n0.length m.n0.C) n0.length (netV n0 m.n0.ms))), (41, .own (starL (netB n0 m.n0.ms))), (50, .own (rowA tyM 2 (.slice m.n1.A n1.length m.n1.C) n1.length (netV n1 m.n1.ms))), (51, .own (starL (netB n1 m.n1.ms)))]
structure SayS where
  i : Nat
  n0 : List Msg
  n1 : List Msg
  link : Int
  m : WM
  z : Zc
theorem say_p0 (b : Nat) (c : Cfg) (link : Int) (e0 e1 : End) (n0 n1 : List Msg) (m : WM) (l : List Frm) (v : Value) (z : Zc) (hR : WldB z e0 e1 n0 n1 m) (hv : Sl fRep z l v) (hl : l.length ≤ 1000) (hf : ∀ f ∈ l, frmOk f = true ∧ f.data.length ≤ 8) (h0 : n0.length ≤ 30) (h1 : n1.length ≤ 30) :
    Spec Tryz.prog 116 [.pointer (some ⟨b, 0, none⟩), .int .i64 0, v] z (wldP b c link e0 e1 n0 n1 m) fun _ z' A' => WldQ c (says ⟨c, [e0, e1], [n0, n1], link⟩ 0 l) b z' A' := by
  obtain ⟨A, kk, cs, rfl, hk, he, hr⟩ := hv
  (refine spec_enterP [10, 11, 22, 23, 32, 33, 40, 41, 50, 51] Tryz.func116 ic116_ok fr116_ok Tryz.ntmps116 rfl ?_; simp only [seval, go_sem, ic116, fr116, zipL, vals])
  refine vsI.atR 11 rfl fun hN => ?_
  have hN := hN (by omega)
  refine gO ?_
  refine loop_upd (ι := SayS) (n := 1) (fun s => z ≤ s.z ∧ s.i ≤ l.length ∧ says ⟨c, [e0, e1], [n0, n1], link⟩ 0 (l.take s.i) = ⟨c, [e0, e1], [s.n0, s.n1], s.link⟩ ∧ WldB s.z e0 e1 s.n0 s.n1 s.m ∧ s.n0.length ≤ 30 ∧ s.n1.length ≤ 30 ∧ IsAt s.m.N) (fun s => [(10, .c (.v (.int .i64 s.i)))])
    (fun s => wldK b c s.link e0 e1 s.n0 s.n1 s.m) (fun s => s.z) (fun s => l.length - s.i) ⟨0, n0, n1, link, m, z⟩ ⟨Zc.rfl' _, by simp, by simp [says], hR, h0, h1, hN⟩ (by (simp only [wrI, wrR, anyL, st, List.append_nil, List.nil_append, List.cons_append]); exact rfl) ?_ ?_
  · exact lX
  · rintro ⟨i, n0', n1', link', m', z1⟩ ⟨hz1, hi, hgl, hR1, hn0, hn1, hN⟩
    dsimp only at *
    refine gO ?_
    (with_reducible refine condI.split (fun hg => ?_) (fun hg => ?_) <;> (try simp only [hg]) <;> (try simp only [seval, go_sem]))
    · have hi' : i < l.length := by simp at hg; omega
      obtain ⟨x, hx⟩ : ∃ x, l[i]? = some x := ⟨_, List.getElem?_eq_getElem hi'⟩
      obtain ⟨hf1, hf8⟩ := hf x (List.mem_of_getElem? hx)
      obtain ⟨c1, ⟨v, rfl, hb⟩, hr1⟩ := (he.mono hz1).at (hr.mono hz1) hx
      obtain ⟨Ax, kx, rfl, hkx, hBx, hrx⟩ := hb.form
      have hat : IsAt A := he.isAt hr (by decide) hi'
      refine gO ?_
      (refine ⟨⟨by omega, by omega, hat⟩, ?_⟩; (try simp only [seval, go_sem]))
      (refine ldF.agg _ rfl (by first | exact .inl hr1 | exact hr1) ?_; (try simp only [seval, go_sem]))
      refine gO ?_
      simp only [wr10]
      (refine callT.give 90 0 2001 rfl rfl (fun bb => ?_)); simp only [seval, go_sem, giveSt, subV, subC, subE, subL]
      refine wD ?_
      refine tT ?_; refine callW 91 (room1 bb c link' e0 e1 n0' n1' m' z1 (by omega)) rfl rfl rfl rfl ?_; rintro v2 z2 A2 hz2 ⟨rfl, rfl, rfl⟩; (try simp only [seval, go_sem])
      (refine vsI.tf (Tf.open' 91 [92, 10, 11, 22, 23, 32, 33, 40, 41, 50, 51] rfl rfl rfl) ?_); simp only [seval, go_sem, zipL]
      (refine vsI.take 92 0 2001 rfl rfl rfl ?_); simp only [seval, go_sem, takeSt, unV, vals]; refine gO ?_
      have hlen := hR1.n1.ok.len
      have hvl := netV_len hR1.n1.ok
      by_cases h30 : n1'.length < 30
      · simp only [seval, go_sem, decide_eq_true h30]
        refine gO ?_
        (with_reducible refine joinV.id ?_; simp only [seval, go_sem])
        simp only [wr10]
        simp only [seval, go_sem]
        ((first | refine ⟨⟨by omega, hN⟩, ?_⟩ | refine ⟨hN, ?_⟩); (try simp only [seval, go_sem]))
        have hw3 : ∀ z3, z1 ≤ z3 → WldB z3 e0 e1 n0' n1' m' := fun z3 hz3 => hR1.mono hz3
        repeat' (first | (refine And.intro ?_ ?_ <;> (try simp only [seval, go_sem])) | (refine ldF.one _ (RdS.cell 11 rfl rfl) ?_; refine gO ?_))
        all_goals refine tT ?_; refine callO 95 (frmBytesO_i x _ z1 hb (by omega) hf1) rfl rfl rfl ?_; rintro v3 z3 A3 hz3 ⟨A5, rfl, rfl⟩; refine gO ?_
        repeat' (first | (refine And.intro ?_ ?_ <;> (try simp only [seval, go_sem])) | (refine ldF.one _ (RdS.cell 11 rfl rfl) ?_; refine gO ?_))
        all_goals refine aT ?_; (refine appM_newF 50 atyMs rfl rfl rfl rfl rfl rfl rfl (by simp [Value.oneCell']) (by omega) (fun A6 c6 hc6 hat6 => ?_)); refine gO ?_
        all_goals ((first | refine ⟨⟨by omega, hN⟩, ?_⟩ | refine ⟨hN, ?_⟩); (try simp only [seval, go_sem]))
        all_goals refine stoV_row 11 rfl rfl rfl rfl rfl rfl rfl (by simp) ?_
        all_goals simp only [seval, go_sem, putV]
        all_goals refine vsI.pk 51 [51, 95] ?_
        all_goals dsimp only
        all_goals refine vsI.tf (Tf.own 51 rfl rfl (fun w F h => starL_push h)) ?_
        all_goals dsimp only
        all_goals refine gO ?_
        all_goals have hR3 := hw3 z3 hz3
        all_goals refine ⟨⟨i + 1, n0', n1' ++ [⟨false, frmBytes x⟩], link', { m' with n1 := ⟨A6, c6, m'.n1.ms ++ [(A5, (frmBytes x).length)]⟩ }, z3⟩, ⟨Zc.trans' hz1 hz3, by dsimp only; omega, by dsimp only; rw [says_take hx, hgl, say1_y1 h30], ⟨hR3.e0, hR3.e1, hR3.n0, hR3.n1.snoc hc6 (Nat.le_refl _) (frmBytes_bys hf1 hBx)⟩, by simp; omega, by simp; omega, hN⟩, by dsimp only; omega, ?_⟩
        all_goals simp only [wldK, wldE, netV_snoc _ _ _ _ _ hlen, netB_snoc _ _ _ _ _ hlen, List.length_append, List.length_singleton]
        all_goals exact lX
      · simp only [seval, go_sem, decide_eq_false h30]
        refine gO ?_
        refine ⟨⟨i + 1, n0', n1', link', m', z1⟩, ⟨hz1, by dsimp only; omega, by dsimp only; rw [says_take hx, hgl, say1_n1 h30], hR1, hn0, hn1, hN⟩, by dsimp only; omega, ?_⟩
        exact lX
    · have hil : i = l.length := by simp at hg; omega
      subst hil
      rw [List.take_length] at hgl
      refine gO ?_
      refine wF1 ?_
      rw [hgl]
      exact WldQ.mk hR1
theorem say_p1 (b : Nat) (c : Cfg) (link : Int) (e0 e1 : End) (n0 n1 : List Msg) (m : WM) (l : List Frm) (v : Value) (z : Zc) (hR : WldB z e0 e1 n0 n1 m) (hv : Sl fRep z l v) (hl : l.length ≤ 1000) (hf : ∀ f ∈ l, frmOk f = true ∧ f.data.length ≤ 8) (h0 : n0.length ≤ 30) (h1 : n1.length ≤ 30) :
    Spec Tryz.prog 116 [.pointer (some ⟨b, 0, none⟩), .int .i64 1, v] z (wldP b c link e0 e1 n0 n1 m) fun _ z' A' => WldQ c (says ⟨c, [e0, e1], [n0, n1], link⟩ 1 l) b z' A' := by
  obtain ⟨A, kk, cs, rfl, hk, he, hr⟩ := hv
  (refine spec_enterP [10, 11, 22, 23, 32, 33, 40, 41, 50, 51] Tryz.func116 ic116_ok fr116_ok Tryz.ntmps116 rfl ?_; simp only [seval, go_sem, ic116, fr116, zipL, vals])
  refine vsI.atR 11 rfl fun hN => ?_
  have hN := hN (by omega)
  refine gO ?_
  refine loop_upd (ι := SayS) (n := 1) (fun s => z ≤ s.z ∧ s.i ≤ l.length ∧ says ⟨c, [e0, e1], [n0, n1], link⟩ 1 (l.take s.i) = ⟨c, [e0, e1], [s.n0, s.n1], s.link⟩ ∧ WldB s.z e0 e1 s.n0 s.n1 s.m ∧ s.n0.length ≤ 30 ∧ s.n1.length ≤ 30 ∧ IsAt s.m.N) (fun s => [(10, .c (.v (.int .i64 s.i)))])
    (fun s => wldK b c s.link e0 e1 s.n0 s.n1 s.m) (fun s => s.z) (fun s => l.length - s.i) ⟨0, n0, n1, link, m, z⟩ ⟨Zc.rfl' _, by simp, by simp [says], hR, h0, h1, hN⟩ (by (simp only [wrI, wrR, anyL, st, List.append_nil, List.nil_append, List.cons_append]); exact rfl) ?_ ?_
  · exact lX
  · rintro ⟨i, n0', n1', link', m', z1⟩ ⟨hz1, hi, hgl, hR1, hn0, hn1, hN⟩
    dsimp only at *
    refine gO ?_
    (with_reducible refine condI.split (fun hg => ?_) (fun hg => ?_) <;> (try simp only [hg]) <;> (try simp only [seval, go_sem]))
    · have hi' : i < l.length := by simp at hg; omega
      obtain ⟨x, hx⟩ : ∃ x, l[i]? = some x := ⟨_, List.getElem?_eq_getElem hi'⟩
      obtain ⟨hf1, hf8⟩ := hf x (List.mem_of_getElem? hx)
      obtain ⟨c1, ⟨v, rfl, hb⟩, hr1⟩ := (he.mono hz1).at (hr.mono hz1) hx
      obtain ⟨Ax, kx, rfl, hkx, hBx, hrx⟩ := hb.form
      have hat : IsAt A := he.isAt hr (by decide) hi'
      refine gO ?_
      (refine ⟨⟨by omega, by omega, hat⟩, ?_⟩; (try simp only [seval, go_sem]))
      (refine ldF.agg _ rfl (by first | exact .inl hr1 | exact hr1) ?_; (try simp only [seval, go_sem]))
      refine gO ?_
      simp only [wr11]
      (refine callT.give 90 0 2001 rfl rfl (fun bb => ?_)); simp only [seval, go_sem, giveSt, subV, subC, subE, subL]
      refine wD ?_
      refine tT ?_; refine callW 91 (room0 bb c link' e0 e1 n0' n1' m' z1 (by omega)) rfl rfl rfl rfl ?_; rintro v2 z2 A2 hz2 ⟨rfl, rfl, rfl⟩; (try simp only [seval, go_sem])
      (refine vsI.tf (Tf.open' 91 [92, 10, 11, 22, 23, 32, 33, 40, 41, 50, 51] rfl rfl rfl) ?_); simp only [seval, go_sem, zipL]
      (refine vsI.take 92 0 2001 rfl rfl rfl ?_); simp only [seval, go_sem, takeSt, unV, vals]; refine gO ?_
      have hlen := hR1.n0.ok.len
      have hvl := netV_len hR1.n0.ok
      by_cases h30 : n0'.length < 30
      · simp only [seval, go_sem, decide_eq_true h30]
        refine gO ?_
        (with_reducible refine joinV.id ?_; simp only [seval, go_sem])
        simp only [wr11]
        simp only [seval, go_sem]
        ((first | refine ⟨⟨by omega, hN⟩, ?_⟩ | refine ⟨hN, ?_⟩); (try simp only [seval, go_sem]))
        have hw3 : ∀ z3, z1 ≤ z3 → WldB z3 e0 e1 n0' n1' m' := fun z3 hz3 => hR1.mono hz3
        repeat' (first | (refine And.intro ?_ ?_ <;> (try simp only [seval, go_sem])) | (refine ldF.one _ (RdS.cell 11 rfl rfl) ?_; refine gO ?_))
        all_goals refine tT ?_; refine callO 95 (frmBytesO_i x _ z1 hb (by omega) hf1) rfl rfl rfl ?_; rintro v3 z3 A3 hz3 ⟨A5, rfl, rfl⟩; refine gO ?_
        repeat' (first | (refine And.intro ?_ ?_ <;> (try simp only [seval, go_sem])) | (refine ldF.one _ (RdS.cell 11 rfl rfl) ?_; refine gO ?_))
        all_goals refine aT ?_; (refine appM_newF 40 atyMs rfl rfl rfl rfl rfl rfl rfl (by simp [Value.oneCell']) (by omega) (fun A6 c6 hc6 hat6 => ?_)); refine gO ?_
        all_goals ((first | refine ⟨⟨by omega, hN⟩, ?_⟩ | refine ⟨hN, ?_⟩); (try simp only [seval, go_sem]))
        all_goals refine stoV_row 11 rfl rfl rfl rfl rfl rfl rfl (by simp) ?_
        all_goals simp only [seval, go_sem, putV]
        all_goals refine vsI.pk 41 [41, 95] ?_
        all_goals dsimp only
        all_goals refine vsI.tf (Tf.own 41 rfl rfl (fun w F h => starL_push h)) ?_
        all_goals dsimp only
        all_goals refine gO ?_
        all_goals have hR3 := hw3 z3 hz3
        all_goals refine ⟨⟨i + 1, n0' ++ [⟨false, frmBytes x⟩], n1', link', { m' with n0 := ⟨A6, c6, m'.n0.ms ++ [(A5, (frmBytes x).length)]⟩ }, z3⟩, ⟨Zc.trans' hz1 hz3, by dsimp only; omega, by dsimp only; rw [says_take hx, hgl, say1_y0 h30], ⟨hR3.e0, hR3.e1, hR3.n0.snoc hc6 (Nat.le_refl _) (frmBytes_bys hf1 hBx), hR3.n1⟩, by simp; omega, by simp; omega, hN⟩, by dsimp only; omega, ?_⟩
        all_goals simp only [wldK, wldE, netV_snoc _ _ _ _ _ hlen, netB_snoc _ _ _ _ _ hlen, List.length_append, List.length_singleton]
        all_goals exact lX
      · simp only [seval, go_sem, decide_eq_false h30]
        refine gO ?_
        refine ⟨⟨i + 1, n0', n1', link', m', z1⟩, ⟨hz1, by dsimp only; omega, by dsimp only; rw [says_take hx, hgl, say1_n0 h30], hR1, hn0, hn1, hN⟩, by dsimp only; omega, ?_⟩
        exact lX
    · have hil : i = l.length := by simp at hg; omega
      subst hil
      rw [List.take_length] at hgl
      refine gO ?_
      refine wF1 ?_
      rw [hgl]
      exact WldQ.mk hR1
set_option maxHeartbeats 1000000
theorem sayif_p0 (b : Nat) (c : Cfg) (link : Int) (e0 e1 : End) (n0 n1 : List Msg) (m : WM) (o : Option Frm) (x : Value) (z : Zc) (hR : WldB z e0 e1 n0 n1 m) (hx : By z (o.getD frm0).data x) (hf : ∀ f, o = some f → frmOk f = true ∧ f.data.length ≤ 8) (h0 : n0.length ≤ 30) (h1 : n1.length ≤ 30) :
    Spec Tryz.prog 119 [.pointer (some ⟨b, 0, none⟩), .int .i64 0, vFrm (o.getD frm0) x, .bool o.isSome] z (wldP b c link e0 e1 n0 n1 m) fun _ z' A' => WldQ c (sayO ⟨c, [e0, e1], [n0, n1], link⟩ 0 o) b z' A' := by
  obtain ⟨Ax, kx, rfl, hkx, hBx, hrx⟩ := hx.form
  (refine spec_enter1 Tryz.func119 ic119_ok fr119_ok Tryz.ntmps119 ?_; simp only [seval, go_sem, ic119, fr119])
  cases o with
  | none =>
    simp only [Option.isSome_none]
    refine gO ?_
    refine fQ ?_
    exact WldQ.mk hR
  | some f =>
    simp only [Option.isSome_some, Option.getD_some] at hx hkx hBx hrx ⊢
    refine gO ?_
    (first | refine callT.frz 1 rfl rfl (fun b1 z1 hz1 hr1 => ?_) | refine callM.frz 1 rfl rfl (fun b1 z1 hz1 hr1 => ?_)); dsimp only at hz1; simp only [seval, go_sem, Go.Proofs.YtpblmlaahapohaaGreat.frz, subV, subC, subE, subL]
    refine tT ?_; refine callW 1000 (say_p0 b c link e0 e1 n0 n1 m [f] (.slice (some ⟨b1, 0, none⟩) 1 1) z1 (hR.mono hz1) ⟨_, _, _, rfl, Nat.le_refl _, Els.single (d := fRep) ⟨_, rfl, hx.mono hz1⟩, hr1⟩ (by simp) (fun g hg => by rw [List.mem_singleton.1 hg]; exact hf f rfl) h0 h1) rfl rfl rfl rfl ?_; rintro v z2 A2 hz2 h2; refine gO ?_
    refine fQ ?_
    exact h2
theorem sayif_p1 (b : Nat) (c : Cfg) (link : Int) (e0 e1 : End) (n0 n1 : List Msg) (m : WM) (o : Option Frm) (x : Value) (z : Zc) (hR : WldB z e0 e1 n0 n1 m) (hx : By z (o.getD frm0).data x) (hf : ∀ f, o = some f → frmOk f = true ∧ f.data.length ≤ 8) (h0 : n0.length ≤ 30) (h1 : n1.length ≤ 30) :
    Spec Tryz.prog 119 [.pointer (some ⟨b, 0, none⟩), .int .i64 1, vFrm (o.getD frm0) x, .bool o.isSome] z (wldP b c link e0 e1 n0 n1 m) fun _ z' A' => WldQ c (sayO ⟨c, [e0, e1], [n0, n1], link⟩ 1 o) b z' A' := by
  obtain ⟨Ax, kx, rfl, hkx, hBx, hrx⟩ := hx.form
  (refine spec_enter1 Tryz.func119 ic119_ok fr119_ok Tryz.ntmps119 ?_; simp only [seval, go_sem, ic119, fr119])
  cases o with
  | none =>
    simp only [Option.isSome_none]
    refine gO ?_
    refine fQ ?_
    exact WldQ.mk hR
  | some f =>
    simp only [Option.isSome_some, Option.getD_some] at hx hkx hBx hrx ⊢
    refine gO ?_
    (first | refine callT.frz 1 rfl rfl (fun b1 z1 hz1 hr1 => ?_) | refine callM.frz 1 rfl rfl (fun b1 z1 hz1 hr1 => ?_)); dsimp only at hz1; simp only [seval, go_sem, Go.Proofs.YtpblmlaahapohaaGreat.frz, subV, subC, subE, subL]
    refine tT ?_; refine callW 1000 (say_p1 b c link e0 e1 n0 n1 m [f] (.slice (some ⟨b1, 0, none⟩) 1 1) z1 (hR.mono hz1) ⟨_, _, _, rfl, Nat.le_refl _, Els.single (d := fRep) ⟨_, rfl, hx.mono hz1⟩, hr1⟩ (by simp) (fun g hg => by rw [List.mem_singleton.1 hg]; exact hf f rfl) h0 h1) rfl rfl rfl rfl ?_; rintro v z2 A2 hz2 h2; refine gO ?_
    refine fQ ?_
    exact h2
set_option maxHeartbeats 2000000
theorem ends_sub {cs l1 l2 l3 : List Value} {o i : Nat} {u : Value} (e : cs = l1 ++ (l2 ++ l3)) (ho : l1.length = o) (h : l2[i]? = some u) : cs[o + i]? = some u := by
  subst e; subst ho
  have hi : i < l2.length := (List.getElem?_eq_some_iff.1 h).1
  rw [List.getElem?_append_right (by omega), Nat.add_sub_cancel_left, List.getElem?_append_left hi]
  exact h



abbrev ctxL (e : End) (m : EndM) : List Value := [.int .i64 e.ctx.hav, .slice m.cA e.ctx.queue.length m.cC, .int .i64 e.ctx.granted, .int .i64 e.ctx.sent, .bool e.ctx.dead]
theorem forcrd_put {w : Wld} {who : Nat} {e : Evt} (hk : e.kind = 1) : forCrd w who e = if (endAt w who).put.length < 60 then setEnd w who { endAt w who with ctx := (crdPut w.cfg (endAt w who).ctx e.data).1, put := if (crdPut w.cfg (endAt w who).ctx e.data).2 then (endAt w who).put ++ [e.data] else (endAt w who).put } else w := by unfold forCrd; rw [if_pos hk]
theorem crd_put0 (b : Nat) (c : Cfg) (link : Int) (e0 e1 : End) (n0 n1 : List Msg) (m : WM) (ev : Evt) (v : Value) (z : Zc) (hv : By z ev.data v) (hs : ev.data.length ≤ 100000) (hR : WldB z e0 e1 n0 n1 m) (hI : EndI c e0) (hw : ev.who = 0) (hk : ev.kind = 1) :
    Spec Tryz.prog 85 [.pointer (some ⟨b, 0, none⟩), vEvt ev v] z (wldP b c link e0 e1 n0 n1 m) fun _ z' A' => WldQ c (forCrd ⟨c, [e0, e1], [n0, n1], link⟩ 0 ev) b z' A' := by
  obtain ⟨kind, who, at_, vv, data⟩ := ev
  dsimp only at *
  subst hw
  subst hk
  have hp8 := hI.ctx.small
  have hq24 := hI.ctx.queue
  obtain ⟨Av, kv, rfl, hkv, hBv, hrv⟩ := hv.form
  have hbn : forCrd ⟨c, [e0, e1], [n0, n1], link⟩ 0 ⟨1, 0, at_, vv, data⟩ = if e0.put.length < 60 then ⟨c, [e0, e1].set 0 { e0 with ctx := (crdPut c e0.ctx data).1, put := if (crdPut c e0.ctx data).2 then e0.put ++ [data] else e0.put }, [n0, n1], link⟩ else ⟨c, [e0, e1], [n0, n1], link⟩ := forcrd_put rfl
  rw [hbn]
  clear hbn
  (refine spec_enterP [10, 11, 22, 23, 32, 33, 40, 41, 50, 51] Tryz.func85 ic85_ok fr85_ok Tryz.ntmps85 rfl ?_; simp only [seval, go_sem, ic85, fr85, zipL, vals])
  refine vsI.atR 10 rfl fun hE => ?_
  have hE := hE (by omega)
  refine gO ?_
  ((first | refine ⟨⟨by omega, hE⟩, ?_⟩ | refine ⟨hE, ?_⟩); (try simp only [seval, go_sem]))
  refine gO ?_
  (refine ldF.one _ (RdS.cell 10 rfl rfl) ?_; refine gO ?_)
  by_cases h60 : e0.put.length < 60
  · have d1 : decide ((e0.put.length : Int) < 60) = true := decide_eq_true (by omega)
    rw [if_pos h60]
    simp only [d1]
    refine gO ?_
    refine ldF.agg (sz := 5) (ctxL e0 m.m0) rfl (RdS.part 10 rfl (fun i u hu => ends_sub (l1 := (endsC e0 e1 m.m0 m.m1).take (28 * 0 + 17)) (l3 := (endsC e0 e1 m.m0 m.m1).drop (28 * 0 + 22)) rfl rfl hu)) ?_
    refine gO ?_
    have hc := crdput_i c e0.ctx data _ _ z hR.e0.cq (by omega) (fun p hp => by have := hp8 p hp; omega) hv hs
    simp only [crdPutG_ok hI.ctx] at hc
    generalize crdPut c e0.ctx data = tp at *
    obtain ⟨⟨hav, qu, granted, sent, dead⟩, ok⟩ := tp
    dsimp only at hc
    refine tT ?_; refine callP (hc) rfl rfl ?_; rintro u z1 hz1 ⟨_, rfl, qA, qC, qcs, rfl, hqc, hqe, hqr⟩; refine gO ?_
    have hq1 : Sl pRep z1 qu (.slice qA qu.length qC) := ⟨_, _, _, rfl, hqc, hqe, hqr⟩
    have hR1 : WldB z1 e0 e1 n0 n1 m := hR.mono hz1
    (refine stoV_row 10 rfl rfl rfl rfl rfl rfl rfl (by rw [endsC_len]; simp) ?_; simp only [seval, go_sem, ends_ctx0]; refine gO ?_)
    have hR2 : WldB z1 { e0 with ctx := ⟨hav, qu, granted, sent, dead⟩ } e1 n0 n1 { m with m0 := { m.m0 with cA := qA, cC := qC } } := ⟨{ hR1.e0 with cq := hq1 }, hR1.e1, hR.n0, hR.n1⟩
    cases ok
    · refine gO ?_
      refine wF1 ?_
      exact ⟨_, _, n0, n1, { m with m0 := { m.m0 with cA := qA, cC := qC } }, link, rfl, rfl, hR2⟩
    · refine gO ?_
      (with_reducible refine joinV.id ?_; simp only [seval, go_sem])
      repeat' (first | (refine And.intro ?_ ?_ <;> (try simp only [seval, go_sem])) | (refine ldF.one _ (RdS.cell 10 rfl rfl) ?_; refine gO ?_))
      all_goals refine tT ?_; refine callP (cloneBy data _ z1 (hv.mono hz1) (by omega)) rfl rfl ?_; rintro v3 z3 hz3 ⟨A5, rfl, hB5, hr5⟩; refine gO ?_
      repeat' (first | (refine And.intro ?_ ?_ <;> (try simp only [seval, go_sem])) | (refine ldF.one _ (RdS.cell 10 rfl rfl) ?_; refine gO ?_))
      all_goals refine aT ?_; (refine appM_newF 22 atyS rfl rfl rfl rfl rfl rfl rfl (by simp [Value.oneCell']) (by omega) (fun A6 c6 hc6 hat6 => ?_)); refine gO ?_
      all_goals (refine stoV_row 10 rfl rfl rfl rfl rfl rfl rfl (by rw [endsC_len]; simp) ?_; refine gO ?_)
      all_goals refine wF1 ?_
      all_goals rw [ends_put0 _ _ _ _ (e0.put ++ [data]) _ _ _ (by simp)]
      all_goals have hR3 := hR2.mono hz3
      all_goals refine ⟨_, _, n0, n1, { m with m0 := { m.m0 with cA := qA, cC := qC, pA := A6, pC := c6, pV := m.m0.pV ++ [.slice A5 data.length data.length] } }, link, rfl, ?_, ⟨{ hR3.e0 with pu := hR3.e0.pu.append (Els.single (d := sduRep) ⟨_, rfl, By.mk (Nat.le_refl _) hB5 hr5⟩), pc := by simp; exact hc6 }, hR3.e1, hR.n0, hR.n1⟩⟩
      all_goals simp only [wldP, wldL, if_true, List.length_append, List.length_singleton]
      all_goals rfl
  · have d1 : decide ((e0.put.length : Int) < 60) = false := decide_eq_false (by omega)
    rw [if_neg h60]
    simp only [d1]
    refine gO ?_
    refine wF1 ?_
    exact WldQ.mk hR
theorem crd_put1 (b : Nat) (c : Cfg) (link : Int) (e0 e1 : End) (n0 n1 : List Msg) (m : WM) (ev : Evt) (v : Value) (z : Zc) (hv : By z ev.data v) (hs : ev.data.length ≤ 100000) (hR : WldB z e0 e1 n0 n1 m) (hI : EndI c e1) (hw : ev.who = 1) (hk : ev.kind = 1) :
    Spec Tryz.prog 85 [.pointer (some ⟨b, 0, none⟩), vEvt ev v] z (wldP b c link e0 e1 n0 n1 m) fun _ z' A' => WldQ c (forCrd ⟨c, [e0, e1], [n0, n1], link⟩ 1 ev) b z' A' := by
  obtain ⟨kind, who, at_, vv, data⟩ := ev
  dsimp only at *
  subst hw
  subst hk
  have hp8 := hI.ctx.small
  have hq24 := hI.ctx.queue
  obtain ⟨Av, kv, rfl, hkv, hBv, hrv⟩ := hv.form
  have hbn : forCrd ⟨c, [e0, e1], [n0, n1], link⟩ 1 ⟨1, 1, at_, vv, data⟩ = if e1.put.length < 60 then ⟨c, [e0, e1].set 1 { e1 with ctx := (crdPut c e1.ctx data).1, put := if (crdPut c e1.ctx data).2 then e1.put ++ [data] else e1.put }, [n0, n1], link⟩ else ⟨c, [e0, e1], [n0, n1], link⟩ := forcrd_put rfl
  rw [hbn]
  clear hbn
  (refine spec_enterP [10, 11, 22, 23, 32, 33, 40, 41, 50, 51] Tryz.func85 ic85_ok fr85_ok Tryz.ntmps85 rfl ?_; simp only [seval, go_sem, ic85, fr85, zipL, vals])
  refine vsI.atR 10 rfl fun hE => ?_
  have hE := hE (by omega)
  refine gO ?_
  ((first | refine ⟨⟨by omega, hE⟩, ?_⟩ | refine ⟨hE, ?_⟩); (try simp only [seval, go_sem]))
  refine gO ?_
  (refine ldF.one _ (RdS.cell 10 rfl rfl) ?_; refine gO ?_)
  by_cases h60 : e1.put.length < 60
  · have d1 : decide ((e1.put.length : Int) < 60) = true := decide_eq_true (by omega)
    rw [if_pos h60]
    simp only [d1]
    refine gO ?_
    refine ldF.agg (sz := 5) (ctxL e1 m.m1) rfl (RdS.part 10 rfl (fun i u hu => ends_sub (l1 := (endsC e0 e1 m.m0 m.m1).take (28 * 1 + 17)) (l3 := (endsC e0 e1 m.m0 m.m1).drop (28 * 1 + 22)) rfl rfl hu)) ?_
    refine gO ?_
    have hc := crdput_i c e1.ctx data _ _ z hR.e1.cq (by omega) (fun p hp => by have := hp8 p hp; omega) hv hs
    simp only [crdPutG_ok hI.ctx] at hc
    generalize crdPut c e1.ctx data = tp at *
    obtain ⟨⟨hav, qu, granted, sent, dead⟩, ok⟩ := tp
    dsimp only at hc
    refine tT ?_; refine callP (hc) rfl rfl ?_; rintro u z1 hz1 ⟨_, rfl, qA, qC, qcs, rfl, hqc, hqe, hqr⟩; refine gO ?_
    have hq1 : Sl pRep z1 qu (.slice qA qu.length qC) := ⟨_, _, _, rfl, hqc, hqe, hqr⟩
    have hR1 : WldB z1 e0 e1 n0 n1 m := hR.mono hz1
    (refine stoV_row 10 rfl rfl rfl rfl rfl rfl rfl (by rw [endsC_len]; simp) ?_; simp only [seval, go_sem, ends_ctx1]; refine gO ?_)
    have hR2 : WldB z1 e0 { e1 with ctx := ⟨hav, qu, granted, sent, dead⟩ } n0 n1 { m with m1 := { m.m1 with cA := qA, cC := qC } } := ⟨hR1.e0, { hR1.e1 with cq := hq1 }, hR.n0, hR.n1⟩
    cases ok
    · refine gO ?_
      refine wF1 ?_
      exact ⟨_, _, n0, n1, { m with m1 := { m.m1 with cA := qA, cC := qC } }, link, rfl, rfl, hR2⟩
    · refine gO ?_
      (with_reducible refine joinV.id ?_; simp only [seval, go_sem])
      repeat' (first | (refine And.intro ?_ ?_ <;> (try simp only [seval, go_sem])) | (refine ldF.one _ (RdS.cell 10 rfl rfl) ?_; refine gO ?_))
      all_goals refine tT ?_; refine callP (cloneBy data _ z1 (hv.mono hz1) (by omega)) rfl rfl ?_; rintro v3 z3 hz3 ⟨A5, rfl, hB5, hr5⟩; refine gO ?_
      repeat' (first | (refine And.intro ?_ ?_ <;> (try simp only [seval, go_sem])) | (refine ldF.one _ (RdS.cell 10 rfl rfl) ?_; refine gO ?_))
      all_goals refine aT ?_; (refine appM_newF 32 atyS rfl rfl rfl rfl rfl rfl rfl (by simp [Value.oneCell']) (by omega) (fun A6 c6 hc6 hat6 => ?_)); refine gO ?_
      all_goals (refine stoV_row 10 rfl rfl rfl rfl rfl rfl rfl (by rw [endsC_len]; simp) ?_; refine gO ?_)
      all_goals refine wF1 ?_
      all_goals rw [ends_put1 _ _ _ _ (e1.put ++ [data]) _ _ _ (by simp)]
      all_goals have hR3 := hR2.mono hz3
      all_goals refine ⟨_, _, n0, n1, { m with m1 := { m.m1 with cA := qA, cC := qC, pA := A6, pC := c6, pV := m.m1.pV ++ [.slice A5 data.length data.length] } }, link, rfl, ?_, ⟨hR3.e0, { hR3.e1 with pu := hR3.e1.pu.append (Els.single (d := sduRep) ⟨_, rfl, By.mk (Nat.le_refl _) hB5 hr5⟩), pc := by simp; exact hc6 }, hR.n0, hR.n1⟩⟩
      all_goals simp only [wldP, wldL, if_true, List.length_append, List.length_singleton]
      all_goals rfl
  · have d1 : decide ((e1.put.length : Int) < 60) = false := decide_eq_false (by omega)
    rw [if_neg h60]
    simp only [d1]
    refine gO ?_
    refine wF1 ?_
    exact WldQ.mk hR
theorem forcrd_send {w : Wld} {who : Nat} {e : Evt} (hk : e.kind = 2) : forCrd w who e = if (netAt w (1 - who)).length < 30 then sayO (setEnd w who { endAt w who with ctx := (crdSend (endAt w who).ctx).1 }) who (crdSend (endAt w who).ctx).2 else w := by unfold forCrd; rw [if_neg (by omega), if_pos hk]
theorem crd_send0 (b : Nat) (c : Cfg) (link : Int) (e0 e1 : End) (n0 n1 : List Msg) (m : WM) (ev : Evt) (v : Value) (z : Zc) (hv : By z ev.data v) (hR : WldB z e0 e1 n0 n1 m) (hI : EndI c e0) (h0 : n0.length ≤ 30) (h1 : n1.length ≤ 30) (hw : ev.who = 0) (hk : ev.kind = 2) :
    Spec Tryz.prog 85 [.pointer (some ⟨b, 0, none⟩), vEvt ev v] z (wldP b c link e0 e1 n0 n1 m) fun _ z' A' => WldQ c (forCrd ⟨c, [e0, e1], [n0, n1], link⟩ 0 ev) b z' A' := by
  obtain ⟨kind, who, at_, vv, data⟩ := ev
  dsimp only at *
  subst hw
  subst hk
  have hp8 := hI.ctx.small
  have hq24 := hI.ctx.queue
  obtain ⟨Av, kv, rfl, hkv, hBv, hrv⟩ := hv.form
  have hbn : forCrd ⟨c, [e0, e1], [n0, n1], link⟩ 0 ⟨2, 0, at_, vv, data⟩ = if n1.length < 30 then sayO ⟨c, [e0, e1].set 0 { e0 with ctx := (crdSend e0.ctx).1 }, [n0, n1], link⟩ 0 (crdSend e0.ctx).2 else ⟨c, [e0, e1], [n0, n1], link⟩ := forcrd_send rfl
  rw [hbn]
  clear hbn
  (refine spec_enterP [10, 11, 22, 23, 32, 33, 40, 41, 50, 51] Tryz.func85 ic85_ok fr85_ok Tryz.ntmps85 rfl ?_; simp only [seval, go_sem, ic85, fr85, zipL, vals])
  refine vsI.atR 10 rfl fun hE => ?_
  have hE := hE (by omega)
  refine gO ?_
  ((first | refine ⟨⟨by omega, hE⟩, ?_⟩ | refine ⟨hE, ?_⟩); (try simp only [seval, go_sem]))
  refine gO ?_
  simp only [wr10]
  (refine callT.give 90 0 2001 rfl rfl (fun bb => ?_)); simp only [seval, go_sem, giveSt, subV, subC, subE, subL]
  refine wD ?_
  refine tT ?_; refine callW 91 (room1 bb c link e0 e1 n0 n1 m z (by omega)) rfl rfl rfl rfl ?_; rintro v2 z2 A2 hz2 ⟨rfl, rfl, rfl⟩; (try simp only [seval, go_sem])
  (refine vsI.tf (Tf.open' 91 [92, 10, 11, 22, 23, 32, 33, 40, 41, 50, 51] rfl rfl rfl) ?_); simp only [seval, go_sem, zipL]
  (refine vsI.take' [0] 92 0 2001 rfl rfl rfl ?_); simp only [seval, go_sem, takeSt', unAt, unV, vals]; refine gO ?_
  by_cases h30 : n1.length < 30
  · rw [if_pos h30]
    simp only [decide_eq_true h30]
    refine gO ?_
    try (with_reducible refine joinV.id ?_; simp only [seval, go_sem])
    have hfr := fun f => @crdSend_frm c e0.ctx f hI.ctx
    have hc := crdsend_i c e0.ctx _ z hR.e0.cq (by omega) (fun p hp => by have := hp8 p hp; omega)
    simp only [crdSendG_ok hI.ctx] at hc
    generalize crdSend e0.ctx = tp at hc hfr ⊢
    obtain ⟨⟨hav, qu, granted, sent, dead⟩, o⟩ := tp
    dsimp only at hc hfr ⊢
    repeat' (first | (refine And.intro ?_ ?_ <;> (try simp only [seval, go_sem])) | (refine ldF.agg (sz := 5) (ctxL e0 m.m0) rfl (RdS.part 10 rfl (fun i u hu => ends_sub (l1 := (endsC e0 e1 m.m0 m.m1).take (28 * 0 + 17)) (l3 := (endsC e0 e1 m.m0 m.m1).drop (28 * 0 + 22)) rfl rfl hu)) ?_; refine gO ?_))
    all_goals refine tT ?_; refine callP (hc) rfl rfl ?_; rintro u z1 hz1 ⟨_, _, _, rfl, ⟨qA, qC, qcs, rfl, hqc, hqe, hqr⟩, _, rfl, ⟨xA, xC, xcs, rfl, hxc, hxe, hxr⟩, rfl⟩; refine gO ?_
    all_goals have hq1 : Sl pRep z1 qu (.slice qA qu.length qC) := ⟨_, _, _, rfl, hqc, hqe, hqr⟩
    all_goals have hR1 : WldB z1 e0 e1 n0 n1 m := hR.mono hz1
    all_goals (refine stoV_row 10 rfl rfl rfl rfl rfl rfl rfl (by rw [endsC_len]; simp) ?_; simp only [seval, go_sem, ends_ctx0]; refine gO ?_)
    all_goals have hR2 : WldB z1 { e0 with ctx := ⟨hav, qu, granted, sent, dead⟩ } e1 n0 n1 { m with m0 := { m.m0 with cA := qA, cC := qC } } := ⟨{ hR1.e0 with cq := hq1 }, hR1.e1, hR.n0, hR.n1⟩
    all_goals (refine callT.give 93 0 2003 rfl rfl (fun b3 => ?_)); simp only [seval, go_sem, giveSt, subV, subC, subE, subL]
    all_goals refine wC ?_
    all_goals refine tT ?_; refine callW 94 (sayif_p0 b3 c link { e0 with ctx := ⟨hav, qu, granted, sent, dead⟩ } e1 n0 n1 { m with m0 := { m.m0 with cA := qA, cC := qC } } o (.slice xA (o.getD frm0).data.length xC) z1 hR2 ⟨xA, xC, xcs, rfl, hxc, hxe, hxr⟩ hfr h0 h1) rfl rfl rfl rfl ?_; rintro v3 z3 A3 hz3 ⟨f0, f1, g0, g1, m3, link3, hw3, rfl, hR3⟩; refine gO ?_
    all_goals refine wO ?_
    all_goals refine wF5 ?_
    all_goals exact ⟨f0, f1, g0, g1, m3, link3, hw3, rfl, hR3⟩
  · rw [if_neg h30]
    simp only [decide_eq_false h30]
    refine gO ?_
    refine wF3 ?_
    exact WldQ.mk hR
theorem crd_send1 (b : Nat) (c : Cfg) (link : Int) (e0 e1 : End) (n0 n1 : List Msg) (m : WM) (ev : Evt) (v : Value) (z : Zc) (hv : By z ev.data v) (hR : WldB z e0 e1 n0 n1 m) (hI : EndI c e1) (h0 : n0.length ≤ 30) (h1 : n1.length ≤ 30) (hw : ev.who = 1) (hk : ev.kind = 2) :
    Spec Tryz.prog 85 [.pointer (some ⟨b, 0, none⟩), vEvt ev v] z (wldP b c link e0 e1 n0 n1 m) fun _ z' A' => WldQ c (forCrd ⟨c, [e0, e1], [n0, n1], link⟩ 1 ev) b z' A' := by
  obtain ⟨kind, who, at_, vv, data⟩ := ev
  dsimp only at *
  subst hw
  subst hk
  have hp8 := hI.ctx.small
  have hq24 := hI.ctx.queue
  obtain ⟨Av, kv, rfl, hkv, hBv, hrv⟩ := hv.form
  have hbn : forCrd ⟨c, [e0, e1], [n0, n1], link⟩ 1 ⟨2, 1, at_, vv, data⟩ = if n0.length < 30 then sayO ⟨c, [e0, e1].set 1 { e1 with ctx := (crdSend e1.ctx).1 }, [n0, n1], link⟩ 1 (crdSend e1.ctx).2 else ⟨c, [e0, e1], [n0, n1], link⟩ := forcrd_send rfl
  rw [hbn]
  clear hbn
  (refine spec_enterP [10, 11, 22, 23, 32, 33, 40, 41, 50, 51] Tryz.func85 ic85_ok fr85_ok Tryz.ntmps85 rfl ?_; simp only [seval, go_sem, ic85, fr85, zipL, vals])
  refine vsI.atR 10 rfl fun hE => ?_
  have hE := hE (by omega)
  refine gO ?_
  ((first | refine ⟨⟨by omega, hE⟩, ?_⟩ | refine ⟨hE, ?_⟩); (try simp only [seval, go_sem]))
  refine gO ?_
  simp only [wr11]
  (refine callT.give 90 0 2001 rfl rfl (fun bb => ?_)); simp only [seval, go_sem, giveSt, subV, subC, subE, subL]
  refine wD ?_
  refine tT ?_; refine callW 91 (room0 bb c link e0 e1 n0 n1 m z (by omega)) rfl rfl rfl rfl ?_; rintro v2 z2 A2 hz2 ⟨rfl, rfl, rfl⟩; (try simp only [seval, go_sem])
  (refine vsI.tf (Tf.open' 91 [92, 10, 11, 22, 23, 32, 33, 40, 41, 50, 51] rfl rfl rfl) ?_); simp only [seval, go_sem, zipL]
  (refine vsI.take' [0] 92 0 2001 rfl rfl rfl ?_); simp only [seval, go_sem, takeSt', unAt, unV, vals]; refine gO ?_
  by_cases h30 : n0.length < 30
  · rw [if_pos h30]
    simp only [decide_eq_true h30]
    refine gO ?_
    try (with_reducible refine joinV.id ?_; simp only [seval, go_sem])
    have hfr := fun f => @crdSend_frm c e1.ctx f hI.ctx
    have hc := crdsend_i c e1.ctx _ z hR.e1.cq (by omega) (fun p hp => by have := hp8 p hp; omega)
    simp only [crdSendG_ok hI.ctx] at hc
    generalize crdSend e1.ctx = tp at hc hfr ⊢
    obtain ⟨⟨hav, qu, granted, sent, dead⟩, o⟩ := tp
    dsimp only at hc hfr ⊢
    repeat' (first | (refine And.intro ?_ ?_ <;> (try simp only [seval, go_sem])) | (refine ldF.agg (sz := 5) (ctxL e1 m.m1) rfl (RdS.part 10 rfl (fun i u hu => ends_sub (l1 := (endsC e0 e1 m.m0 m.m1).take (28 * 1 + 17)) (l3 := (endsC e0 e1 m.m0 m.m1).drop (28 * 1 + 22)) rfl rfl hu)) ?_; refine gO ?_))
    all_goals refine tT ?_; refine callP (hc) rfl rfl ?_; rintro u z1 hz1 ⟨_, _, _, rfl, ⟨qA, qC, qcs, rfl, hqc, hqe, hqr⟩, _, rfl, ⟨xA, xC, xcs, rfl, hxc, hxe, hxr⟩, rfl⟩; refine gO ?_
    all_goals have hq1 : Sl pRep z1 qu (.slice qA qu.length qC) := ⟨_, _, _, rfl, hqc, hqe, hqr⟩
    all_goals have hR1 : WldB z1 e0 e1 n0 n1 m := hR.mono hz1
    all_goals (refine stoV_row 10 rfl rfl rfl rfl rfl rfl rfl (by rw [endsC_len]; simp) ?_; simp only [seval, go_sem, ends_ctx1]; refine gO ?_)
    all_goals have hR2 : WldB z1 e0 { e1 with ctx := ⟨hav, qu, granted, sent, dead⟩ } n0 n1 { m with m1 := { m.m1 with cA := qA, cC := qC } } := ⟨hR1.e0, { hR1.e1 with cq := hq1 }, hR.n0, hR.n1⟩
    all_goals (refine callT.give 93 0 2003 rfl rfl (fun b3 => ?_)); simp only [seval, go_sem, giveSt, subV, subC, subE, subL]
    all_goals refine wC ?_
    all_goals refine tT ?_; refine callW 94 (sayif_p1 b3 c link e0 { e1 with ctx := ⟨hav, qu, granted, sent, dead⟩ } n0 n1 { m with m1 := { m.m1 with cA := qA, cC := qC } } o (.slice xA (o.getD frm0).data.length xC) z1 hR2 ⟨xA, xC, xcs, rfl, hxc, hxe, hxr⟩ hfr h0 h1) rfl rfl rfl rfl ?_; rintro v3 z3 A3 hz3 ⟨f0, f1, g0, g1, m3, link3, hw3, rfl, hR3⟩; refine gO ?_
    all_goals refine wO ?_
    all_goals refine wF5 ?_
    all_goals exact ⟨f0, f1, g0, g1, m3, link3, hw3, rfl, hR3⟩
  · rw [if_neg h30]
    simp only [decide_eq_false h30]
    refine gO ?_
    refine wF3 ?_
    exact WldQ.mk hR
abbrev crxL (e : End) (m : EndM) : List Value := [.int .i64 e.crx.out, .int .i64 e.crx.join.len, .slice m.kA e.crx.join.got.length m.kC, .bool e.crx.dead]
theorem forcrd_grant {w : Wld} {who : Nat} {e : Evt} (hk : e.kind = 6) : forCrd w who e = if (netAt w (1 - who)).length < 30 then sayO (setEnd w who { endAt w who with crx := (crdGrant (endAt w who).crx).1 }) who (crdGrant (endAt w who).crx).2 else w := by unfold forCrd; rw [if_neg (by omega), if_neg (by omega), if_pos hk]
theorem crd_grant0 (b : Nat) (c : Cfg) (link : Int) (e0 e1 : End) (n0 n1 : List Msg) (m : WM) (ev : Evt) (v : Value) (z : Zc) (hv : By z ev.data v) (hR : WldB z e0 e1 n0 n1 m) (hI : EndI c e0) (h0 : n0.length ≤ 30) (h1 : n1.length ≤ 30) (hw : ev.who = 0) (hk : ev.kind = 6) :
    Spec Tryz.prog 85 [.pointer (some ⟨b, 0, none⟩), vEvt ev v] z (wldP b c link e0 e1 n0 n1 m) fun _ z' A' => WldQ c (forCrd ⟨c, [e0, e1], [n0, n1], link⟩ 0 ev) b z' A' := by
  obtain ⟨kind, who, at_, vv, data⟩ := ev
  dsimp only at *
  subst hw
  subst hk
  have hj23 := hI.crx.2.le
  obtain ⟨Av, kv, rfl, hkv, hBv, hrv⟩ := hv.form
  have hbn : forCrd ⟨c, [e0, e1], [n0, n1], link⟩ 0 ⟨6, 0, at_, vv, data⟩ = if n1.length < 30 then sayO ⟨c, [e0, e1].set 0 { e0 with crx := (crdGrant e0.crx).1 }, [n0, n1], link⟩ 0 (crdGrant e0.crx).2 else ⟨c, [e0, e1], [n0, n1], link⟩ := forcrd_grant rfl
  rw [hbn]
  clear hbn
  (refine spec_enterP [10, 11, 22, 23, 32, 33, 40, 41, 50, 51] Tryz.func85 ic85_ok fr85_ok Tryz.ntmps85 rfl ?_; simp only [seval, go_sem, ic85, fr85, zipL, vals])
  refine vsI.atR 10 rfl fun hE => ?_
  have hE := hE (by omega)
  refine gO ?_
  ((first | refine ⟨⟨by omega, hE⟩, ?_⟩ | refine ⟨hE, ?_⟩); (try simp only [seval, go_sem]))
  refine gO ?_
  simp only [wr10]
  (refine callT.give 90 0 2001 rfl rfl (fun bb => ?_)); simp only [seval, go_sem, giveSt, subV, subC, subE, subL]
  refine wD ?_
  refine tT ?_; refine callW 91 (room1 bb c link e0 e1 n0 n1 m z (by omega)) rfl rfl rfl rfl ?_; rintro v2 z2 A2 hz2 ⟨rfl, rfl, rfl⟩; (try simp only [seval, go_sem])
  (refine vsI.tf (Tf.open' 91 [92, 10, 11, 22, 23, 32, 33, 40, 41, 50, 51] rfl rfl rfl) ?_); simp only [seval, go_sem, zipL]
  (refine vsI.take' [0] 92 0 2001 rfl rfl rfl ?_); simp only [seval, go_sem, takeSt', unAt, unV, vals]; refine gO ?_
  by_cases h30 : n1.length < 30
  · rw [if_pos h30]
    simp only [decide_eq_true h30]
    refine gO ?_
    try (with_reducible refine joinV.id ?_; simp only [seval, go_sem])
    have hfr := fun f => @crdGrant_frm e0.crx f hI.crx
    have hc := crdgrant_i e0.crx _ z hR.e0.kj (by omega) (by have := hI.crx.2; rcases this with h | h <;> omega)
    simp only [crdGrantG_ok hI.crx] at hc
    generalize crdGrant e0.crx = tp at hc hfr ⊢
    obtain ⟨⟨out, ⟨len, got⟩, dead⟩, o⟩ := tp
    dsimp only at hc hfr ⊢
    repeat' (first | (refine And.intro ?_ ?_ <;> (try simp only [seval, go_sem])) | (refine ldF.agg (sz := 4) (crxL e0 m.m0) rfl (RdS.part 10 rfl (fun i u hu => ends_sub (l1 := (endsC e0 e1 m.m0 m.m1).take (28 * 0 + 22)) (l3 := (endsC e0 e1 m.m0 m.m1).drop (28 * 0 + 26)) rfl rfl hu)) ?_; refine gO ?_))
    all_goals refine tT ?_; refine callP (hc) rfl rfl ?_; rintro u z1 hz1 ⟨_, _, _, rfl, ⟨qA, qC, qcs, rfl, hqc, hqe, hqr⟩, _, rfl, ⟨xA, xC, xcs, rfl, hxc, hxe, hxr⟩, rfl⟩; refine gO ?_
    all_goals have hq1 : By z1 got (.slice qA got.length qC) := ⟨_, _, _, rfl, hqc, hqe, hqr⟩
    all_goals have hR1 : WldB z1 e0 e1 n0 n1 m := hR.mono hz1
    all_goals (refine stoV_row 10 rfl rfl rfl rfl rfl rfl rfl (by rw [endsC_len]; simp) ?_; simp only [seval, go_sem, ends_crx0]; refine gO ?_)
    all_goals have hR2 : WldB z1 { e0 with crx := ⟨out, ⟨len, got⟩, dead⟩ } e1 n0 n1 { m with m0 := { m.m0 with kA := qA, kC := qC } } := ⟨{ hR1.e0 with kj := hq1 }, hR1.e1, hR.n0, hR.n1⟩
    all_goals (refine callT.give 93 0 2003 rfl rfl (fun b3 => ?_)); simp only [seval, go_sem, giveSt, subV, subC, subE, subL]
    all_goals refine wC ?_
    all_goals refine tT ?_; refine callW 94 (sayif_p0 b3 c link { e0 with crx := ⟨out, ⟨len, got⟩, dead⟩ } e1 n0 n1 { m with m0 := { m.m0 with kA := qA, kC := qC } } o (.slice xA (o.getD frm0).data.length xC) z1 hR2 ⟨xA, xC, xcs, rfl, hxc, hxe, hxr⟩ hfr h0 h1) rfl rfl rfl rfl ?_; rintro v3 z3 A3 hz3 ⟨f0, f1, g0, g1, m3, link3, hw3, rfl, hR3⟩; refine gO ?_
    all_goals refine wO ?_
    all_goals refine wF5 ?_
    all_goals exact ⟨f0, f1, g0, g1, m3, link3, hw3, rfl, hR3⟩
  · rw [if_neg h30]
    simp only [decide_eq_false h30]
    refine gO ?_
    refine wF3 ?_
    exact WldQ.mk hR
theorem crd_grant1 (b : Nat) (c : Cfg) (link : Int) (e0 e1 : End) (n0 n1 : List Msg) (m : WM) (ev : Evt) (v : Value) (z : Zc) (hv : By z ev.data v) (hR : WldB z e0 e1 n0 n1 m) (hI : EndI c e1) (h0 : n0.length ≤ 30) (h1 : n1.length ≤ 30) (hw : ev.who = 1) (hk : ev.kind = 6) :
    Spec Tryz.prog 85 [.pointer (some ⟨b, 0, none⟩), vEvt ev v] z (wldP b c link e0 e1 n0 n1 m) fun _ z' A' => WldQ c (forCrd ⟨c, [e0, e1], [n0, n1], link⟩ 1 ev) b z' A' := by
  obtain ⟨kind, who, at_, vv, data⟩ := ev
  dsimp only at *
  subst hw
  subst hk
  have hj23 := hI.crx.2.le
  obtain ⟨Av, kv, rfl, hkv, hBv, hrv⟩ := hv.form
  have hbn : forCrd ⟨c, [e0, e1], [n0, n1], link⟩ 1 ⟨6, 1, at_, vv, data⟩ = if n0.length < 30 then sayO ⟨c, [e0, e1].set 1 { e1 with crx := (crdGrant e1.crx).1 }, [n0, n1], link⟩ 1 (crdGrant e1.crx).2 else ⟨c, [e0, e1], [n0, n1], link⟩ := forcrd_grant rfl
  rw [hbn]
  clear hbn
  (refine spec_enterP [10, 11, 22, 23, 32, 33, 40, 41, 50, 51] Tryz.func85 ic85_ok fr85_ok Tryz.ntmps85 rfl ?_; simp only [seval, go_sem, ic85, fr85, zipL, vals])
  refine vsI.atR 10 rfl fun hE => ?_
  have hE := hE (by omega)
  refine gO ?_
  ((first | refine ⟨⟨by omega, hE⟩, ?_⟩ | refine ⟨hE, ?_⟩); (try simp only [seval, go_sem]))
  refine gO ?_
  simp only [wr11]
  (refine callT.give 90 0 2001 rfl rfl (fun bb => ?_)); simp only [seval, go_sem, giveSt, subV, subC, subE, subL]
  refine wD ?_
  refine tT ?_; refine callW 91 (room0 bb c link e0 e1 n0 n1 m z (by omega)) rfl rfl rfl rfl ?_; rintro v2 z2 A2 hz2 ⟨rfl, rfl, rfl⟩; (try simp only [seval, go_sem])
  (refine vsI.tf (Tf.open' 91 [92, 10, 11, 22, 23, 32, 33, 40, 41, 50, 51] rfl rfl rfl) ?_); simp only [seval, go_sem, zipL]
  (refine vsI.take' [0] 92 0 2001 rfl rfl rfl ?_); simp only [seval, go_sem, takeSt', unAt, unV, vals]; refine gO ?_
  by_cases h30 : n0.length < 30
  · rw [if_pos h30]
    simp only [decide_eq_true h30]
    refine gO ?_
    try (with_reducible refine joinV.id ?_; simp only [seval, go_sem])
    have hfr := fun f => @crdGrant_frm e1.crx f hI.crx
    have hc := crdgrant_i e1.crx _ z hR.e1.kj (by omega) (by have := hI.crx.2; rcases this with h | h <;> omega)
    simp only [crdGrantG_ok hI.crx] at hc
    generalize crdGrant e1.crx = tp at hc hfr ⊢
    obtain ⟨⟨out, ⟨len, got⟩, dead⟩, o⟩ := tp
    dsimp only at hc hfr ⊢
    repeat' (first | (refine And.intro ?_ ?_ <;> (try simp only [seval, go_sem])) | (refine ldF.agg (sz := 4) (crxL e1 m.m1) rfl (RdS.part 10 rfl (fun i u hu => ends_sub (l1 := (endsC e0 e1 m.m0 m.m1).take (28 * 1 + 22)) (l3 := (endsC e0 e1 m.m0 m.m1).drop (28 * 1 + 26)) rfl rfl hu)) ?_; refine gO ?_))
    all_goals refine tT ?_; refine callP (hc) rfl rfl ?_; rintro u z1 hz1 ⟨_, _, _, rfl, ⟨qA, qC, qcs, rfl, hqc, hqe, hqr⟩, _, rfl, ⟨xA, xC, xcs, rfl, hxc, hxe, hxr⟩, rfl⟩; refine gO ?_
    all_goals have hq1 : By z1 got (.slice qA got.length qC) := ⟨_, _, _, rfl, hqc, hqe, hqr⟩
    all_goals have hR1 : WldB z1 e0 e1 n0 n1 m := hR.mono hz1
    all_goals (refine stoV_row 10 rfl rfl rfl rfl rfl rfl rfl (by rw [endsC_len]; simp) ?_; simp only [seval, go_sem, ends_crx1]; refine gO ?_)
    all_goals have hR2 : WldB z1 e0 { e1 with crx := ⟨out, ⟨len, got⟩, dead⟩ } n0 n1 { m with m1 := { m.m1 with kA := qA, kC := qC } } := ⟨hR1.e0, { hR1.e1 with kj := hq1 }, hR.n0, hR.n1⟩
    all_goals (refine callT.give 93 0 2003 rfl rfl (fun b3 => ?_)); simp only [seval, go_sem, giveSt, subV, subC, subE, subL]
    all_goals refine wC ?_
    all_goals refine tT ?_; refine callW 94 (sayif_p1 b3 c link e0 { e1 with crx := ⟨out, ⟨len, got⟩, dead⟩ } n0 n1 { m with m1 := { m.m1 with kA := qA, kC := qC } } o (.slice xA (o.getD frm0).data.length xC) z1 hR2 ⟨xA, xC, xcs, rfl, hxc, hxe, hxr⟩ hfr h0 h1) rfl rfl rfl rfl ?_; rintro v3 z3 A3 hz3 ⟨f0, f1, g0, g1, m3, link3, hw3, rfl, hR3⟩; refine gO ?_
    all_goals refine wO ?_
    all_goals refine wF5 ?_
    all_goals exact ⟨f0, f1, g0, g1, m3, link3, hw3, rfl, hR3⟩
  · rw [if_neg h30]
    simp only [decide_eq_false h30]
    refine gO ?_
    refine wF3 ?_
    exact WldQ.mk hR
theorem forcrd_none {w : Wld} {who : Nat} {e : Evt} (hk : e.kind = 3 ∨ e.kind = 4 ∨ e.kind = 5) : forCrd w who e = w := by unfold forCrd; rw [if_neg (by omega), if_neg (by omega), if_neg (by omega)]
theorem crd_none0 (b : Nat) (c : Cfg) (link : Int) (e0 e1 : End) (n0 n1 : List Msg) (m : WM) (ev : Evt) (v : Value) (z : Zc) (hv : By z ev.data v) (hR : WldB z e0 e1 n0 n1 m) (hw : ev.who = 0) (hk : ev.kind = 3 ∨ ev.kind = 4 ∨ ev.kind = 5) :
    Spec Tryz.prog 85 [.pointer (some ⟨b, 0, none⟩), vEvt ev v] z (wldP b c link e0 e1 n0 n1 m) fun _ z' A' => WldQ c (forCrd ⟨c, [e0, e1], [n0, n1], link⟩ 0 ev) b z' A' := by
  rw [forcrd_none hk]
  obtain ⟨kind, who, at_, vv, data⟩ := ev
  dsimp only at *
  subst hw
  obtain ⟨Av, kv, rfl, hkv, hBv, hrv⟩ := hv.form
  (refine spec_enterP [10, 11, 22, 23, 32, 33, 40, 41, 50, 51] Tryz.func85 ic85_ok fr85_ok Tryz.ntmps85 rfl ?_; simp only [seval, go_sem, ic85, fr85, zipL, vals])
  refine vsI.atR 10 rfl fun hE => ?_
  have hE := hE (by omega)
  rcases hk with rfl | rfl | rfl
  · refine gO ?_
    ((first | refine ⟨⟨by omega, hE⟩, ?_⟩ | refine ⟨hE, ?_⟩); (try simp only [seval, go_sem]))
    refine gO ?_
    refine wF3 ?_
    exact WldQ.mk hR
  · refine gO ?_
    ((first | refine ⟨⟨by omega, hE⟩, ?_⟩ | refine ⟨hE, ?_⟩); (try simp only [seval, go_sem]))
    refine gO ?_
    refine wF3 ?_
    exact WldQ.mk hR
  · refine gO ?_
    ((first | refine ⟨⟨by omega, hE⟩, ?_⟩ | refine ⟨hE, ?_⟩); (try simp only [seval, go_sem]))
    refine gO ?_
    refine wF3 ?_
    exact WldQ.mk hR
theorem crd_none1 (b : Nat) (c : Cfg) (link : Int) (e0 e1 : End) (n0 n1 : List Msg) (m : WM) (ev : Evt) (v : Value) (z : Zc) (hv : By z ev.data v) (hR : WldB z e0 e1 n0 n1 m) (hw : ev.who = 1) (hk : ev.kind = 3 ∨ ev.kind = 4 ∨ ev.kind = 5) :
    Spec Tryz.prog 85 [.pointer (some ⟨b, 0, none⟩), vEvt ev v] z (wldP b c link e0 e1 n0 n1 m) fun _ z' A' => WldQ c (forCrd ⟨c, [e0, e1], [n0, n1], link⟩ 1 ev) b z' A' := by
  rw [forcrd_none hk]
  obtain ⟨kind, who, at_, vv, data⟩ := ev
  dsimp only at *
  subst hw
  obtain ⟨Av, kv, rfl, hkv, hBv, hrv⟩ := hv.form
  (refine spec_enterP [10, 11, 22, 23, 32, 33, 40, 41, 50, 51] Tryz.func85 ic85_ok fr85_ok Tryz.ntmps85 rfl ?_; simp only [seval, go_sem, ic85, fr85, zipL, vals])
  refine vsI.atR 10 rfl fun hE => ?_
  have hE := hE (by omega)
  rcases hk with rfl | rfl | rfl
  · refine gO ?_
    ((first | refine ⟨⟨by omega, hE⟩, ?_⟩ | refine ⟨hE, ?_⟩); (try simp only [seval, go_sem]))
    refine gO ?_
    refine wF3 ?_
    exact WldQ.mk hR
  · refine gO ?_
    ((first | refine ⟨⟨by omega, hE⟩, ?_⟩ | refine ⟨hE, ?_⟩); (try simp only [seval, go_sem]))
    refine gO ?_
    refine wF3 ?_
    exact WldQ.mk hR
  · refine gO ?_
    ((first | refine ⟨⟨by omega, hE⟩, ?_⟩ | refine ⟨hE, ?_⟩); (try simp only [seval, go_sem]))
    refine gO ?_
    refine wF3 ?_
    exact WldQ.mk hR
set_option maxHeartbeats 4000000
theorem opT.frzA {P : Program} {o : Oper} {s : St} {K : St → Prop} (k : Nat) {A : Asrt} {G : Zc → Prop} (hk : look k s.L = some (.own A)) (hA : RdA A G) (h : ∀ z', s.z ≤ z' → G z' → opT P o ⟨s.t, del k s.L, z', s.n⟩ K) : opT P o s K := fun C ρ a w Q hs => by
  obtain ⟨z', h1, h2, h3⟩ := hs.frzA hk hA
  refine Oper.wp_mono ?_ (h z' h1 h2 C ρ a w Q h3)
  rintro a' w' ⟨s', ρ', k1, k2, k3, k4⟩
  exact ⟨s', ρ', k1, k2, k3, Zc.trans' h1 k4⟩
theorem callT.frzA {P : Program} {f : FuncId} {args : List Operand} {d : Option Nat} {s : St} {K : St → Prop} (k : Nat) {A : Asrt} {G : Zc → Prop} (hk : look k s.L = some (.own A)) (hA : RdA A G) (h : ∀ z', s.z ≤ z' → G z' → callT P f args d ⟨s.t, del k s.L, z', s.n⟩ K) : callT P f args d s K := fun o h1 h2 => opT.frzA k hk hA fun z' g1 g2 => h z' g1 g2 o h1 h2
theorem FinV.frzA {fr : List FR} {s : St} {R : Value → Zc → Asrt → Prop} (k : Nat) {A : Asrt} {G : Zc → Prop} (hk : look k s.L = some (.own A)) (hA : RdA A G) (h : ∀ z', s.z ≤ z' → G z' → FinV fr ⟨s.t, del k s.L, z', s.n⟩ R) : FinV fr s R := fun C ρ a w hs => by
  obtain ⟨z', h1, h2, h3⟩ := hs.frzA hk hA
  exact h z' h1 h2 C ρ a w h3
theorem hear_no0 (b : Nat) (c : Cfg) (link : Int) (e0 e1 : End) (n0 n1 : List Msg) (msg : Msg) (rest : List Msg) (m : WM) (z : Zc) (hR : WldB z e0 e1 n0 n1 m) (h15 : msg.bytes.length ≤ 1000) (h30 : n0.length ≤ 1000) (hn : n0 = msg :: rest) (hE : IsAt m.E) (hN : IsAt m.N) (hA : IsAt m.n0.A) (hf : frmRead msg.bytes = none) :
    Spec Tryz.prog 82 [.pointer (some ⟨b, 0, none⟩), .int .i64 0] z (wldP b c link e0 e1 n0 n1 m) fun _ z' A' => WldQ c (setNet ⟨c, [e0, e1], [n0, n1], link⟩ 0 rest) b z' A' := by
  subst hn
  obtain ⟨E, EC, N, NC, m0, m1, ⟨A0, C0, ms0⟩, ⟨A1, C1, ms1⟩⟩ := m
  have hok := hR.n0.ok
  have hcap := hR.n0.cap
  dsimp only at hok hcap hE hN hA
  cases ms0 with
  | nil => exact hok.elim
  | cons x ms =>
  obtain ⟨a, cb⟩ := x
  obtain ⟨⟨hb1, hb2⟩, hok⟩ := hok
  have hvl := netV_len hok
  have hlr : (msg :: rest).length = rest.length + 1 := rfl
  have hnv : List.take (rest.length * 2) (List.drop 2 (netV (msg :: rest) ((a, cb) :: ms))) = netV rest ms := List.take_of_length_le (by show (netV rest ms).length ≤ _; omega)
  (refine spec_enterP [10, 11, 22, 23, 32, 33, 40, 41, 50, 51] Tryz.func82 ic82_ok fr82_ok Tryz.ntmps82 rfl ?_; simp only [seval, go_sem, ic82, fr82, zipL, vals])
  ((first | refine ⟨⟨by omega, hN⟩, ?_⟩ | refine ⟨hN, ?_⟩); (try simp only [seval, go_sem]))
  (refine ldF.one _ (RdS.cell 11 rfl rfl) ?_; refine gO ?_)
  refine ⟨⟨by simp, hA⟩, ?_⟩
  refine gO ?_
  (refine ldF.one _ (RdS.cell 40 rfl rfl) ?_; refine gO ?_)
  refine callT.tf (Tf.split 41 46 rfl rfl rfl) ?_
  dsimp only
  refine callT.frzA 46 rfl (RdA.bys hb1 hb2) (fun z4 hz4 hby => ?_)
  dsimp only at hz4
  simp only [seval, go_sem]
  have hc := frmRead_i msg.bytes _ z4 hby (by omega)
  simp only [hf] at hc
  refine tT ?_; refine callP (hc) rfl rfl ?_; rintro u z5 hz5 rfl; refine gO ?_
  ((first | refine ⟨⟨by omega, hN⟩, ?_⟩ | refine ⟨hN, ?_⟩); (try simp only [seval, go_sem]))
  (refine ldF.one _ (RdS.cell 11 rfl rfl) ?_; refine gO ?_)
  refine ⟨by omega, ?_⟩; refine gO ?_
  ((first | refine ⟨⟨by omega, hN⟩, ?_⟩ | refine ⟨hN, ?_⟩); (try simp only [seval, go_sem]))
  (refine stoV_row 11 rfl rfl rfl rfl rfl rfl rfl (by simp) ?_; simp only [seval, go_sem, putV]; refine gO ?_)
  refine gO ?_
  refine FinV.tf (Tf.cut 40 rfl rfl 1 (rest.length + 1) C0 (by omega) (by simp) hcap (by omega) (.inr (.inr hA))) ?_
  simp only [Nat.one_mul, Nat.add_sub_cancel, hnv]
  refine wF1 ?_
  exact ⟨e0, e1, rest, n1, ⟨E, EC, N, NC, m0, m1, ⟨cutA A0 C0 1 2, C0 - 1, ms⟩, ⟨A1, C1, ms1⟩⟩, link, rfl, rfl, ⟨hR.e0.mono (Zc.trans' hz4 hz5), hR.e1.mono (Zc.trans' hz4 hz5), ⟨hok, by show rest.length ≤ C0 - 1; rw [hlr] at hcap; omega⟩, hR.n1⟩⟩
theorem hear_no1 (b : Nat) (c : Cfg) (link : Int) (e0 e1 : End) (n0 n1 : List Msg) (msg : Msg) (rest : List Msg) (m : WM) (z : Zc) (hR : WldB z e0 e1 n0 n1 m) (h15 : msg.bytes.length ≤ 1000) (h30 : n1.length ≤ 1000) (hn : n1 = msg :: rest) (hE : IsAt m.E) (hN : IsAt m.N) (hA : IsAt m.n1.A) (hf : frmRead msg.bytes = none) :
    Spec Tryz.prog 82 [.pointer (some ⟨b, 0, none⟩), .int .i64 1] z (wldP b c link e0 e1 n0 n1 m) fun _ z' A' => WldQ c (setNet ⟨c, [e0, e1], [n0, n1], link⟩ 1 rest) b z' A' := by
  subst hn
  obtain ⟨E, EC, N, NC, m0, m1, ⟨A0, C0, ms0⟩, ⟨A1, C1, ms1⟩⟩ := m
  have hok := hR.n1.ok
  have hcap := hR.n1.cap
  dsimp only at hok hcap hE hN hA
  cases ms1 with
  | nil => exact hok.elim
  | cons x ms =>
  obtain ⟨a, cb⟩ := x
  obtain ⟨⟨hb1, hb2⟩, hok⟩ := hok
  have hvl := netV_len hok
  have hlr : (msg :: rest).length = rest.length + 1 := rfl
  have hnv : List.take (rest.length * 2) (List.drop 2 (netV (msg :: rest) ((a, cb) :: ms))) = netV rest ms := List.take_of_length_le (by show (netV rest ms).length ≤ _; omega)
  (refine spec_enterP [10, 11, 22, 23, 32, 33, 40, 41, 50, 51] Tryz.func82 ic82_ok fr82_ok Tryz.ntmps82 rfl ?_; simp only [seval, go_sem, ic82, fr82, zipL, vals])
  ((first | refine ⟨⟨by omega, hN⟩, ?_⟩ | refine ⟨hN, ?_⟩); (try simp only [seval, go_sem]))
  (refine ldF.one _ (RdS.cell 11 rfl rfl) ?_; refine gO ?_)
  refine ⟨⟨by simp, hA⟩, ?_⟩
  refine gO ?_
  (refine ldF.one _ (RdS.cell 50 rfl rfl) ?_; refine gO ?_)
  refine callT.tf (Tf.split 51 46 rfl rfl rfl) ?_
  dsimp only
  refine callT.frzA 46 rfl (RdA.bys hb1 hb2) (fun z4 hz4 hby => ?_)
  dsimp only at hz4
  simp only [seval, go_sem]
  have hc := frmRead_i msg.bytes _ z4 hby (by omega)
  simp only [hf] at hc
  refine tT ?_; refine callP (hc) rfl rfl ?_; rintro u z5 hz5 rfl; refine gO ?_
  ((first | refine ⟨⟨by omega, hN⟩, ?_⟩ | refine ⟨hN, ?_⟩); (try simp only [seval, go_sem]))
  (refine ldF.one _ (RdS.cell 11 rfl rfl) ?_; refine gO ?_)
  refine ⟨by omega, ?_⟩; refine gO ?_
  ((first | refine ⟨⟨by omega, hN⟩, ?_⟩ | refine ⟨hN, ?_⟩); (try simp only [seval, go_sem]))
  (refine stoV_row 11 rfl rfl rfl rfl rfl rfl rfl (by simp) ?_; simp only [seval, go_sem, putV]; refine gO ?_)
  refine gO ?_
  refine FinV.tf (Tf.cut 50 rfl rfl 1 (rest.length + 1) C1 (by omega) (by simp) hcap (by omega) (.inr (.inr hA))) ?_
  simp only [Nat.one_mul, Nat.add_sub_cancel, hnv]
  refine wF1 ?_
  exact ⟨e0, e1, n0, rest, ⟨E, EC, N, NC, m0, m1, ⟨A0, C0, ms0⟩, ⟨cutA A1 C1 1 2, C1 - 1, ms⟩⟩, link, rfl, rfl, ⟨hR.e0.mono (Zc.trans' hz4 hz5), hR.e1.mono (Zc.trans' hz4 hz5), hR.n0, ⟨hok, by show rest.length ≤ C1 - 1; rw [hlr] at hcap; omega⟩⟩⟩
theorem ends_gotV0 (e0 e1 : End) (m0 m1 : EndM) (l : List (List Int)) (n c : Nat) (A : Option Addr) (V : List Value) (h : n = l.length) : putV (endsC e0 e1 m0 m1) 27 [.slice A n c] = endsC { e0 with got := l } e1 { m0 with gA := A, gC := c, gV := V } m1 := by subst h; rfl
theorem ends_gotV1 (e0 e1 : End) (m0 m1 : EndM) (l : List (List Int)) (n c : Nat) (A : Option Addr) (V : List Value) (h : n = l.length) : putV (endsC e0 e1 m0 m1) 55 [.slice A n c] = endsC e0 { e1 with got := l } m0 { m1 with gA := A, gC := c, gV := V } := by subst h; rfl
end Go.Proofs.YtpblmlaahapohaaGreat
