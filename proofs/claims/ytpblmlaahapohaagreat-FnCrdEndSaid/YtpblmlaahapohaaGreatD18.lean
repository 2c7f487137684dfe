/- One hears a frame, for credits, by the program. · What happens to two ends, by the program: what is shared. · What happens to two ends, by the program: one hears; nothing is there. · What happens to two ends that use credits, by the program. · What happens to two ends, by the program: a frame is put in. · What happens to the second of two ends that use credits, by the program, a frame put in, too. · Two ends are ok, by the program. -/
import Derived.Test.YtpblmlaahapohaaGreatD17
import Derived.Test.YtpblmlaahapohaaGreatD7
import Derived.Test.YtpblmlaahapohaaGreatD16
import Derived.Test.YtpblmlaahapohaaGreatD14
namespace Go.Proofs.YtpblmlaahapohaaGreat
open Go.RowKit
set_option linter.unusedVariables false
set_option linter.unusedSimpArgs false
set_option maxRecDepth 100000
set_option maxHeartbeats 4000000
theorem hear_c3_0 (b : Nat) (c : Cfg) (link : Int) (e0 e1 : End) (n0 n1 : List Msg) (msg : Msg) (rest : List Msg) (f : Frm) (m : WM) (z : Zc) (hR : WldB z e0 e1 n0 n1 m) (hI : EndI c e0) (hm : c.mode = 2) (h0 : n0.length ≤ 30) (h1 : n1.length ≤ 30) (h15 : msg.bytes.length ≤ 15) (hn : n0 = msg :: rest) (hf : frmRead msg.bytes = some f) (hok : frmOk f = true) (hkk : f.kind = 3) (hE : IsAt m.E) (hN : IsAt m.N) (hA : IsAt m.n0.A) :
    Spec Tryz.prog 82 [.pointer (some ⟨b, 0, none⟩), .int .i64 0] z (wldP b c link e0 e1 n0 n1 m) fun _ z' A' => WldQ c ⟨c, [e0, e1].set 0 (hearC c e0 f), [n0, n1].set 0 rest, link⟩ b z' A' := by
  subst hn
  obtain ⟨E, EC, N, NC, m0, m1, ⟨A0, C0, ms0⟩, ⟨A1, C1, ms1⟩⟩ := m
  obtain ⟨hR0, hR1, hRn0, hRn1⟩ := hR
  have hno := hRn0.ok
  have hcap := hRn0.cap
  dsimp only at hno hcap hR0 hR1 hRn0 hRn1 hE hN hA
  cases ms0 with
  | nil => exact hno.elim
  | cons x ms =>
  obtain ⟨a, cb⟩ := x
  obtain ⟨⟨hb1, hb2⟩, hno⟩ := hno
  have hvl := netV_len hno
  have hlr : (msg :: rest).length = rest.length + 1 := rfl
  have hnv : List.take (rest.length * 2) (List.drop 2 (netV (msg :: rest) ((a, cb) :: ms))) = netV rest ms := List.take_of_length_le (by show (netV rest ms).length ≤ _; omega)
  have hcap1 : rest.length ≤ C0 - 1 := by rw [hlr] at hcap; omega
  obtain ⟨kind, seq, ack, poll, fin, say, seg, len, data⟩ := f
  dsimp only at hkk
  subst hkk
  obtain ⟨mode, win, mps, mtu, tri⟩ := c
  dsimp only at hm
  subst hm
  (refine spec_enterP [10, 11, 22, 23, 32, 33, 40, 41, 50, 51] Tryz.func82 ic82_ok fr82_ok Tryz.ntmps82 rfl ?_; simp only [seval, go_sem, ic82, fr82, zipL, vals])
  ((first | refine ⟨⟨by omega, hN⟩, ?_⟩ | refine ⟨hN, ?_⟩); (try simp only [seval, go_sem]))
  (refine ldF.one _ (RdS.cell 11 rfl rfl) ?_; refine gO ?_)
  refine ⟨⟨by simp, hA⟩, ?_⟩
  refine gO ?_
  (refine ldF.one _ (RdS.cell 40 rfl rfl) ?_; refine gO ?_)
  refine callT.tf (Tf.split 41 46 rfl rfl rfl) ?_
  dsimp only
  refine callT.frzA 46 rfl (RdA.bys hb1 hb2) (fun z4 hz4 hby => ?_)
  dsimp only at hz4
  simp only [seval, go_sem]
  have hc := frmRead_i msg.bytes _ z4 hby (by omega)
  simp only [hf] at hc
  refine tT ?_; refine callP (hc) rfl rfl ?_; rintro u z5 hz5 ⟨x, rfl, hx⟩; (try simp only [seval, go_sem])
  obtain ⟨Ax, kx, rfl, hkx, hBx, hrx⟩ := hx.form
  try dsimp only at hx
  refine gO ?_
  ((first | refine ⟨⟨by omega, hN⟩, ?_⟩ | refine ⟨hN, ?_⟩); (try simp only [seval, go_sem]))
  (refine ldF.one _ (RdS.cell 11 rfl rfl) ?_; refine gO ?_)
  refine ⟨by omega, ?_⟩; refine gO ?_
  ((first | refine ⟨⟨by omega, hN⟩, ?_⟩ | refine ⟨hN, ?_⟩); (try simp only [seval, go_sem]))
  (refine stoV_row 11 rfl rfl rfl rfl rfl rfl rfl (by simp) ?_; simp only [seval, go_sem, putV]; refine gO ?_)
  ((first | refine ⟨⟨by omega, hE⟩, ?_⟩ | refine ⟨hE, ?_⟩); (try simp only [seval, go_sem]))
  refine gO ?_
  have hz05 := Zc.trans' hz4 hz5
  have hj23 := hI.crx.2.le
  have hjl : -1000000000 ≤ e0.crx.join.len := by have := hI.crx.2; rcases this with h | h <;> omega
  have hfb := (frmOk_bound hok)
  dsimp only at hfb
  refine ldF.agg (sz := 4) (crxL e0 m0) rfl (RdS.part 10 rfl (fun i u hu => ends_sub (l1 := (endsC e0 e1 m0 m1).take 22) (l3 := (endsC e0 e1 m0 m1).drop 26) rfl rfl hu)) ?_
  refine gO ?_
  have hc1 := crdhear_i ⟨2, win, mps, mtu, tri⟩ e0.crx ⟨3, seq, ack, poll, fin, say, seg, len, data⟩ _ (.slice Ax data.length kx) z5 (Sl.mono hz05 hR0.kj) hx (by omega) hjl (by show data.length ≤ _; omega)
  simp only [crdHearG_ok (c := ⟨2, win, mps, mtu, tri⟩) (r := e0.crx) (f := ⟨3, seq, ack, poll, fin, say, seg, len, data⟩) ⟨cfgOk_iff.2 hI.ctx.cfg, crxOk_iff.2 hI.crx, rfl, hok⟩] at hc1
  have hsl := (crdHear_ok (c := ⟨2, win, mps, mtu, tri⟩) (f := ⟨3, seq, ack, poll, fin, say, seg, len, data⟩) hI.crx (frm3 hok rfl)).2.2
  rw [show hearC ⟨2, win, mps, mtu, tri⟩ e0 ⟨3, seq, ack, poll, fin, say, seg, len, data⟩ = { e0 with crx := (crdHear ⟨2, win, mps, mtu, tri⟩ e0.crx ⟨3, seq, ack, poll, fin, say, seg, len, data⟩).1, got := tell e0.got (crdHear ⟨2, win, mps, mtu, tri⟩ e0.crx ⟨3, seq, ack, poll, fin, say, seg, len, data⟩).2 } by unfold hearC; rw [if_neg (show ¬ (3 : Int) = 4 by decide), if_pos rfl]]
  generalize crdHear ⟨2, win, mps, mtu, tri⟩ e0.crx ⟨3, seq, ack, poll, fin, say, seg, len, data⟩ = tq at hc1 hsl ⊢
  obtain ⟨⟨out, ⟨rlen, rgot⟩, dead⟩, sdus⟩ := tq
  dsimp only at hc1 hsl ⊢
  refine tT ?_; refine callP (hc1) rfl rfl ?_; rintro u z7 hz7 ⟨_, _, rfl, ⟨kA, kC, ks, rfl, hk5, he5, hr5⟩, ⟨B6, k6, cs6, rfl, hk6, he6, hr6⟩⟩; refine gO ?_; (try simp only [seval, go_sem])
  try dsimp only at hk5 he5 hk6 he6
  have h5 : By z7 rgot (.slice kA rgot.length kC) := ⟨_, _, _, rfl, hk5, he5, hr5⟩
  refine gO ?_
  (refine stoV_row 10 rfl rfl rfl rfl rfl rfl rfl (by rw [endsC_len]; simp) ?_; simp only [seval, go_sem, ends_crx0]; refine gO ?_)
  have hzz := Zc.trans' hz05 hz7
  refine loopV.tf (Tf.cut 40 rfl rfl 1 (rest.length + 1) C0 (by omega) (by simp) hcap (by omega) (.inr (.inr hA))) ?_
  simp only [Nat.one_mul, Nat.add_sub_cancel, hnv]
  refine loop_upd (ι := TelS) (n := 2) (fun s => z7 ≤ s.z ∧ s.i ≤ sdus.length ∧ s.g = tell e0.got (sdus.take s.i) ∧ Els sduRep s.z s.g s.V ∧ s.g.length ≤ s.C ∧ s.g.length ≤ 60) (fun s => [(144, .c (.v (.int .i64 s.i)))])
    (fun s => wldK b ⟨2, win, mps, mtu, tri⟩ link { e0 with crx := ⟨out, ⟨rlen, rgot⟩, dead⟩, got := s.g } e1 rest n1 ⟨E, EC, N, NC, { m0 with kA := kA, kC := kC, gA := s.A, gC := s.C, gV := s.V }, m1, ⟨cutA A0 C0 1 2, C0 - 1, ms⟩, ⟨A1, C1, ms1⟩⟩ ++ [(1, .cells 34 [.v (.int .i64 3), .v (.int .i64 seq), .v (.int .i64 ack), .v (.bool poll), .v (.bool fin), .v (.int .i64 say), .v (.int .i64 seg), .v (.int .i64 len), .v (.slice Ax data.length kx)])]) (fun s => s.z) (fun s => sdus.length - s.i) ⟨0, e0.got, m0.gA, m0.gC, m0.gV, z7⟩ ⟨Zc.rfl' _, by simp, by simp [tell], hR0.go.mono hzz, hR0.gc, hI.got.1⟩ (by (simp only [wrI, wrR, anyL, st, List.append_nil, List.nil_append, List.cons_append]); exact rfl) ?_ ?_
  · simp only [wldK, wldE, List.cons_append, List.nil_append]
    exact lX
  · rintro ⟨i, g, gA, gC, gV, z8⟩ ⟨hz8, hi, hgl, hge, hgc, hg60⟩
    dsimp only at *
    simp only [wldK, wldE, List.cons_append, List.nil_append]
    refine gO ?_
    (with_reducible refine condI.split (fun hg => ?_) (fun hg => ?_) <;> (try simp only [hg]) <;> (try simp only [seval, go_sem]))
    · have hi' : i < sdus.length := by simp at hg; omega
      obtain ⟨x, hx'⟩ : ∃ x, sdus[i]? = some x := ⟨_, List.getElem?_eq_getElem hi'⟩
      obtain ⟨c1, ⟨v, rfl, hb⟩, hr1⟩ := (he6.mono hz8).at (hr6.mono hz8) hx'
      obtain ⟨Ay, cy, rfl, hcy, hBy, hry⟩ := By.form hb
      have hat := he6.isAt hr6 (by decide) hi'
      refine gO ?_
      (refine ⟨⟨by omega, by omega, hat⟩, ?_⟩; (try simp only [seval, go_sem]))
      (refine ldF.one _ (by first | exact .inl hr1 | exact hr1) ?_; (try simp only [seval, go_sem]))
      refine gO ?_
      (refine ldF.one _ (RdS.cell 10 rfl rfl) ?_; refine gO ?_)
      (with_reducible refine condI.split (fun hg => ?_) (fun hg => ?_) <;> (try simp only [hg]) <;> (try simp only [seval, go_sem]))
      · refine gO ?_
        (refine ldF.one _ (RdS.cell 10 rfl rfl) ?_; refine gO ?_)
        refine aT ?_; (refine appM_newF 23 atyS rfl rfl rfl rfl rfl rfl rfl (by simp [Value.oneCell']) (by omega) (fun A6 c6 hc6 hat6 => ?_)); refine gO ?_
        (refine stoV_row 10 rfl rfl rfl rfl rfl rfl rfl (by rw [endsC_len]; simp) ?_; refine gO ?_)
        rw [ends_gotV0 _ _ _ _ (g ++ [x]) _ _ _ (gV ++ [.slice Ay x.length cy]) (by simp), show g.length + 1 = (g ++ [x]).length by simp]
        refine ⟨⟨i + 1, g ++ [x], A6, c6, gV ++ [.slice Ay x.length cy], z8⟩, ⟨hz8, by dsimp only; omega, ?_, hge.append (Els.single (d := sduRep) ⟨_, rfl, By.mk hcy hBy hry⟩), by simp; exact hc6, by have := of_decide_eq_true hg; simp; omega⟩, by dsimp only; omega, ?_⟩
        · dsimp only; rw [tell_take hx', ← hgl, if_pos (by have := of_decide_eq_true hg; omega)]
        · exact lX
      · refine gO ?_
        refine ⟨⟨i + 1, g, gA, gC, gV, z8⟩, ⟨hz8, by dsimp only; omega, by dsimp only; rw [tell_take hx', ← hgl, if_neg (by have := of_decide_eq_false hg; omega)], hge, hgc, hg60⟩, by dsimp only; omega, ?_⟩
        exact lX
    · have hil : i = sdus.length := by simp at hg; omega
      subst hil
      rw [List.take_length] at hgl
      subst hgl
      refine gO ?_
      have hR8 : WldB z8 { e0 with crx := ⟨out, ⟨rlen, rgot⟩, dead⟩, got := (tell e0.got sdus) } e1 rest n1 ⟨E, EC, N, NC, { m0 with kA := kA, kC := kC, gA := gA, gC := gC, gV := gV }, m1, ⟨cutA A0 C0 1 2, C0 - 1, ms⟩, ⟨A1, C1, ms1⟩⟩ := ⟨{ (hR0.mono (Zc.trans' hzz hz8)) with kj := Sl.mono hz8 h5, go := hge, gc := hgc }, hR1.mono (Zc.trans' hzz hz8), ⟨hno, hcap1⟩, hRn1⟩
      (refine callT.give 93 0 2003 rfl rfl (fun b3 => ?_)); simp only [seval, go_sem, giveSt, subV, subC, subE, subL]
      refine wC ?_
      refine tT ?_; refine callW 94 (say_p0 b3 ⟨2, win, mps, mtu, tri⟩ link { e0 with crx := ⟨out, ⟨rlen, rgot⟩, dead⟩, got := (tell e0.got sdus) } e1 rest n1 ⟨E, EC, N, NC, { m0 with kA := kA, kC := kC, gA := gA, gC := gC, gV := gV }, m1, ⟨cutA A0 C0 1 2, C0 - 1, ms⟩, ⟨A1, C1, ms1⟩⟩ [] (.slice none 0 0) z8 hR8 (Sl.nil _ _ _) (by simp) (by simp) (by simp at h0; omega) (by skip; omega)) rfl rfl rfl rfl ?_; rintro v3 z3 A3 hz3 ⟨f0, f1, g0, g1, m3, link3, hw3, rfl, hR9⟩; refine gO ?_
      refine wO ?_
      refine wF5 ?_
      exact ⟨f0, f1, g0, g1, m3, link3, hw3, rfl, hR9⟩
theorem hear_c4_0 (b : Nat) (c : Cfg) (link : Int) (e0 e1 : End) (n0 n1 : List Msg) (msg : Msg) (rest : List Msg) (f : Frm) (m : WM) (z : Zc) (hR : WldB z e0 e1 n0 n1 m) (hI : EndI c e0) (hm : c.mode = 2) (h0 : n0.length ≤ 30) (h1 : n1.length ≤ 30) (h15 : msg.bytes.length ≤ 15) (hn : n0 = msg :: rest) (hf : frmRead msg.bytes = some f) (hok : frmOk f = true) (hkk : f.kind = 4) (hE : IsAt m.E) (hN : IsAt m.N) (hA : IsAt m.n0.A) :
    Spec Tryz.prog 82 [.pointer (some ⟨b, 0, none⟩), .int .i64 0] z (wldP b c link e0 e1 n0 n1 m) fun _ z' A' => WldQ c ⟨c, [e0, e1].set 0 (hearC c e0 f), [n0, n1].set 0 rest, link⟩ b z' A' := by
  subst hn
  obtain ⟨E, EC, N, NC, m0, m1, ⟨A0, C0, ms0⟩, ⟨A1, C1, ms1⟩⟩ := m
  obtain ⟨hR0, hR1, hRn0, hRn1⟩ := hR
  have hno := hRn0.ok
  have hcap := hRn0.cap
  dsimp only at hno hcap hR0 hR1 hRn0 hRn1 hE hN hA
  cases ms0 with
  | nil => exact hno.elim
  | cons x ms =>
  obtain ⟨a, cb⟩ := x
  obtain ⟨⟨hb1, hb2⟩, hno⟩ := hno
  have hvl := netV_len hno
  have hlr : (msg :: rest).length = rest.length + 1 := rfl
  have hnv : List.take (rest.length * 2) (List.drop 2 (netV (msg :: rest) ((a, cb) :: ms))) = netV rest ms := List.take_of_length_le (by show (netV rest ms).length ≤ _; omega)
  have hcap1 : rest.length ≤ C0 - 1 := by rw [hlr] at hcap; omega
  obtain ⟨kind, seq, ack, poll, fin, say, seg, len, data⟩ := f
  dsimp only at hkk
  subst hkk
  obtain ⟨mode, win, mps, mtu, tri⟩ := c
  dsimp only at hm
  subst hm
  (refine spec_enterP [10, 11, 22, 23, 32, 33, 40, 41, 50, 51] Tryz.func82 ic82_ok fr82_ok Tryz.ntmps82 rfl ?_; simp only [seval, go_sem, ic82, fr82, zipL, vals])
  ((first | refine ⟨⟨by omega, hN⟩, ?_⟩ | refine ⟨hN, ?_⟩); (try simp only [seval, go_sem]))
  (refine ldF.one _ (RdS.cell 11 rfl rfl) ?_; refine gO ?_)
  refine ⟨⟨by simp, hA⟩, ?_⟩
  refine gO ?_
  (refine ldF.one _ (RdS.cell 40 rfl rfl) ?_; refine gO ?_)
  refine callT.tf (Tf.split 41 46 rfl rfl rfl) ?_
  dsimp only
  refine callT.frzA 46 rfl (RdA.bys hb1 hb2) (fun z4 hz4 hby => ?_)
  dsimp only at hz4
  simp only [seval, go_sem]
  have hc := frmRead_i msg.bytes _ z4 hby (by omega)
  simp only [hf] at hc
  refine tT ?_; refine callP (hc) rfl rfl ?_; rintro u z5 hz5 ⟨x, rfl, hx⟩; (try simp only [seval, go_sem])
  obtain ⟨Ax, kx, rfl, hkx, hBx, hrx⟩ := hx.form
  try dsimp only at hx
  refine gO ?_
  ((first | refine ⟨⟨by omega, hN⟩, ?_⟩ | refine ⟨hN, ?_⟩); (try simp only [seval, go_sem]))
  (refine ldF.one _ (RdS.cell 11 rfl rfl) ?_; refine gO ?_)
  refine ⟨by omega, ?_⟩; refine gO ?_
  ((first | refine ⟨⟨by omega, hN⟩, ?_⟩ | refine ⟨hN, ?_⟩); (try simp only [seval, go_sem]))
  (refine stoV_row 11 rfl rfl rfl rfl rfl rfl rfl (by simp) ?_; simp only [seval, go_sem, putV]; refine gO ?_)
  ((first | refine ⟨⟨by omega, hE⟩, ?_⟩ | refine ⟨hE, ?_⟩); (try simp only [seval, go_sem]))
  refine gO ?_
  have hz05 := Zc.trans' hz4 hz5
  have hp8 := hI.ctx.small
  have hq24 := hI.ctx.queue
  refine ldF.agg (sz := 5) (ctxL e0 m0) rfl (RdS.part 10 rfl (fun i u hu => ends_sub (l1 := (endsC e0 e1 m0 m1).take 17) (l3 := (endsC e0 e1 m0 m1).drop 22) rfl rfl hu)) ?_
  refine gO ?_
  have hc1 := crdtake_i ⟨2, win, mps, mtu, tri⟩ e0.ctx len _ z5 (hR0.cq.mono hz05) (by omega) (fun p hp => by have := hp8 p hp; omega)
  simp only [crdTakeG_ok hI.ctx (frm4 hok rfl)] at hc1
  rw [show hearC ⟨2, win, mps, mtu, tri⟩ e0 ⟨4, seq, ack, poll, fin, say, seg, len, data⟩ = { e0 with ctx := crdTake e0.ctx len } by unfold hearC; rw [if_pos rfl]]
  generalize crdTake e0.ctx len = tp at hc1 ⊢
  obtain ⟨hav, qu, granted, sent, dead⟩ := tp
  dsimp only at hc1 ⊢
  refine tT ?_; refine callP (hc1) rfl rfl ?_; rintro u z6 hz6 ⟨_, rfl, cA, cC, ccs, rfl, hkc, hec, hrc⟩; refine gO ?_
  try dsimp only at hkc hec
  have hcq : Sl pRep z6 qu (.slice cA qu.length cC) := ⟨_, _, _, rfl, hkc, hec, hrc⟩
  have hzz := Zc.trans' hz05 hz6
  (refine stoV_row 10 rfl rfl rfl rfl rfl rfl rfl (by rw [endsC_len]; simp) ?_; simp only [seval, go_sem, ends_ctx0]; refine gO ?_)
  refine loopV.tf (Tf.cut 40 rfl rfl 1 (rest.length + 1) C0 (by omega) (by simp) hcap (by omega) (.inr (.inr hA))) ?_
  simp only [Nat.one_mul, Nat.add_sub_cancel, hnv]
  refine loopV.rounds 1 ?_
  rw [roundsV_succ]
  refine gO ?_
  try simp only [seval, go_sem, show decide ((0 : Int) < ((0 : Nat) : Int)) = false from rfl]
  refine gO ?_
  simp only [seval, go_sem, roundK_exit]
  refine gO ?_
  have hR8 : WldB z6 { e0 with ctx := ⟨hav, qu, granted, sent, dead⟩ } e1 rest n1 ⟨E, EC, N, NC, { m0 with cA := cA, cC := cC }, m1, ⟨cutA A0 C0 1 2, C0 - 1, ms⟩, ⟨A1, C1, ms1⟩⟩ := ⟨{ (hR0.mono hzz) with cq := hcq }, hR1.mono hzz, ⟨hno, hcap1⟩, hRn1⟩
  (refine callT.give 93 0 2003 rfl rfl (fun b3 => ?_)); simp only [seval, go_sem, giveSt, subV, subC, subE, subL]
  refine wC ?_
  refine tT ?_; refine callW 94 (say_p0 b3 ⟨2, win, mps, mtu, tri⟩ link { e0 with ctx := ⟨hav, qu, granted, sent, dead⟩ } e1 rest n1 ⟨E, EC, N, NC, { m0 with cA := cA, cC := cC }, m1, ⟨cutA A0 C0 1 2, C0 - 1, ms⟩, ⟨A1, C1, ms1⟩⟩ [] (.slice none 0 0) z6 hR8 (Sl.nil _ _ _) (by simp) (by simp) (by simp at h0; omega) (by skip; omega)) rfl rfl rfl rfl ?_; rintro v3 z3 A3 hz3 ⟨f0, f1, g0, g1, m3, link3, hw3, rfl, hR9⟩; refine gO ?_
  refine wO ?_
  refine wF5 ?_
  exact ⟨f0, f1, g0, g1, m3, link3, hw3, rfl, hR9⟩
theorem hear_c3_1 (b : Nat) (c : Cfg) (link : Int) (e0 e1 : End) (n0 n1 : List Msg) (msg : Msg) (rest : List Msg) (f : Frm) (m : WM) (z : Zc) (hR : WldB z e0 e1 n0 n1 m) (hI : EndI c e1) (hm : c.mode = 2) (h0 : n0.length ≤ 30) (h1 : n1.length ≤ 30) (h15 : msg.bytes.length ≤ 15) (hn : n1 = msg :: rest) (hf : frmRead msg.bytes = some f) (hok : frmOk f = true) (hkk : f.kind = 3) (hE : IsAt m.E) (hN : IsAt m.N) (hA : IsAt m.n1.A) :
    Spec Tryz.prog 82 [.pointer (some ⟨b, 0, none⟩), .int .i64 1] z (wldP b c link e0 e1 n0 n1 m) fun _ z' A' => WldQ c ⟨c, [e0, e1].set 1 (hearC c e1 f), [n0, n1].set 1 rest, link⟩ b z' A' := by
  subst hn
  obtain ⟨E, EC, N, NC, m0, m1, ⟨A0, C0, ms0⟩, ⟨A1, C1, ms1⟩⟩ := m
  obtain ⟨hR0, hR1, hRn0, hRn1⟩ := hR
  have hno := hRn1.ok
  have hcap := hRn1.cap
  dsimp only at hno hcap hR0 hR1 hRn0 hRn1 hE hN hA
  cases ms1 with
  | nil => exact hno.elim
  | cons x ms =>
  obtain ⟨a, cb⟩ := x
  obtain ⟨⟨hb1, hb2⟩, hno⟩ := hno
  have hvl := netV_len hno
  have hlr : (msg :: rest).length = rest.length + 1 := rfl
  have hnv : List.take (rest.length * 2) (List.drop 2 (netV (msg :: rest) ((a, cb) :: ms))) = netV rest ms := List.take_of_length_le (by show (netV rest ms).length ≤ _; omega)
  have hcap1 : rest.length ≤ C1 - 1 := by rw [hlr] at hcap; omega
  obtain ⟨kind, seq, ack, poll, fin, say, seg, len, data⟩ := f
  dsimp only at hkk
  subst hkk
  obtain ⟨mode, win, mps, mtu, tri⟩ := c
  dsimp only at hm
  subst hm
  (refine spec_enterP [10, 11, 22, 23, 32, 33, 40, 41, 50, 51] Tryz.func82 ic82_ok fr82_ok Tryz.ntmps82 rfl ?_; simp only [seval, go_sem, ic82, fr82, zipL, vals])
  ((first | refine ⟨⟨by omega, hN⟩, ?_⟩ | refine ⟨hN, ?_⟩); (try simp only [seval, go_sem]))
  (refine ldF.one _ (RdS.cell 11 rfl rfl) ?_; refine gO ?_)
  refine ⟨⟨by simp, hA⟩, ?_⟩
  refine gO ?_
  (refine ldF.one _ (RdS.cell 50 rfl rfl) ?_; refine gO ?_)
  refine callT.tf (Tf.split 51 46 rfl rfl rfl) ?_
  dsimp only
  refine callT.frzA 46 rfl (RdA.bys hb1 hb2) (fun z4 hz4 hby => ?_)
  dsimp only at hz4
  simp only [seval, go_sem]
  have hc := frmRead_i msg.bytes _ z4 hby (by omega)
  simp only [hf] at hc
  refine tT ?_; refine callP (hc) rfl rfl ?_; rintro u z5 hz5 ⟨x, rfl, hx⟩; (try simp only [seval, go_sem])
  obtain ⟨Ax, kx, rfl, hkx, hBx, hrx⟩ := hx.form
  try dsimp only at hx
  refine gO ?_
  ((first | refine ⟨⟨by omega, hN⟩, ?_⟩ | refine ⟨hN, ?_⟩); (try simp only [seval, go_sem]))
  (refine ldF.one _ (RdS.cell 11 rfl rfl) ?_; refine gO ?_)
  refine ⟨by omega, ?_⟩; refine gO ?_
  ((first | refine ⟨⟨by omega, hN⟩, ?_⟩ | refine ⟨hN, ?_⟩); (try simp only [seval, go_sem]))
  (refine stoV_row 11 rfl rfl rfl rfl rfl rfl rfl (by simp) ?_; simp only [seval, go_sem, putV]; refine gO ?_)
  ((first | refine ⟨⟨by omega, hE⟩, ?_⟩ | refine ⟨hE, ?_⟩); (try simp only [seval, go_sem]))
  refine gO ?_
  have hz05 := Zc.trans' hz4 hz5
  have hj23 := hI.crx.2.le
  have hjl : -1000000000 ≤ e1.crx.join.len := by have := hI.crx.2; rcases this with h | h <;> omega
  have hfb := (frmOk_bound hok)
  dsimp only at hfb
  refine ldF.agg (sz := 4) (crxL e1 m1) rfl (RdS.part 10 rfl (fun i u hu => ends_sub (l1 := (endsC e0 e1 m0 m1).take 50) (l3 := (endsC e0 e1 m0 m1).drop 54) rfl rfl hu)) ?_
  refine gO ?_
  have hc1 := crdhear_i ⟨2, win, mps, mtu, tri⟩ e1.crx ⟨3, seq, ack, poll, fin, say, seg, len, data⟩ _ (.slice Ax data.length kx) z5 (Sl.mono hz05 hR1.kj) hx (by omega) hjl (by show data.length ≤ _; omega)
  simp only [crdHearG_ok (c := ⟨2, win, mps, mtu, tri⟩) (r := e1.crx) (f := ⟨3, seq, ack, poll, fin, say, seg, len, data⟩) ⟨cfgOk_iff.2 hI.ctx.cfg, crxOk_iff.2 hI.crx, rfl, hok⟩] at hc1
  have hsl := (crdHear_ok (c := ⟨2, win, mps, mtu, tri⟩) (f := ⟨3, seq, ack, poll, fin, say, seg, len, data⟩) hI.crx (frm3 hok rfl)).2.2
  rw [show hearC ⟨2, win, mps, mtu, tri⟩ e1 ⟨3, seq, ack, poll, fin, say, seg, len, data⟩ = { e1 with crx := (crdHear ⟨2, win, mps, mtu, tri⟩ e1.crx ⟨3, seq, ack, poll, fin, say, seg, len, data⟩).1, got := tell e1.got (crdHear ⟨2, win, mps, mtu, tri⟩ e1.crx ⟨3, seq, ack, poll, fin, say, seg, len, data⟩).2 } by unfold hearC; rw [if_neg (show ¬ (3 : Int) = 4 by decide), if_pos rfl]]
  generalize crdHear ⟨2, win, mps, mtu, tri⟩ e1.crx ⟨3, seq, ack, poll, fin, say, seg, len, data⟩ = tq at hc1 hsl ⊢
  obtain ⟨⟨out, ⟨rlen, rgot⟩, dead⟩, sdus⟩ := tq
  dsimp only at hc1 hsl ⊢
  refine tT ?_; refine callP (hc1) rfl rfl ?_; rintro u z7 hz7 ⟨_, _, rfl, ⟨kA, kC, ks, rfl, hk5, he5, hr5⟩, ⟨B6, k6, cs6, rfl, hk6, he6, hr6⟩⟩; refine gO ?_; (try simp only [seval, go_sem])
  try dsimp only at hk5 he5 hk6 he6
  have h5 : By z7 rgot (.slice kA rgot.length kC) := ⟨_, _, _, rfl, hk5, he5, hr5⟩
  refine gO ?_
  (refine stoV_row 10 rfl rfl rfl rfl rfl rfl rfl (by rw [endsC_len]; simp) ?_; simp only [seval, go_sem, ends_crx1]; refine gO ?_)
  have hzz := Zc.trans' hz05 hz7
  refine loopV.tf (Tf.cut 50 rfl rfl 1 (rest.length + 1) C1 (by omega) (by simp) hcap (by omega) (.inr (.inr hA))) ?_
  simp only [Nat.one_mul, Nat.add_sub_cancel, hnv]
  refine loop_upd (ι := TelS) (n := 2) (fun s => z7 ≤ s.z ∧ s.i ≤ sdus.length ∧ s.g = tell e1.got (sdus.take s.i) ∧ Els sduRep s.z s.g s.V ∧ s.g.length ≤ s.C ∧ s.g.length ≤ 60) (fun s => [(144, .c (.v (.int .i64 s.i)))])
    (fun s => wldK b ⟨2, win, mps, mtu, tri⟩ link e0 { e1 with crx := ⟨out, ⟨rlen, rgot⟩, dead⟩, got := s.g } n0 rest ⟨E, EC, N, NC, m0, { m1 with kA := kA, kC := kC, gA := s.A, gC := s.C, gV := s.V }, ⟨A0, C0, ms0⟩, ⟨cutA A1 C1 1 2, C1 - 1, ms⟩⟩ ++ [(1, .cells 34 [.v (.int .i64 3), .v (.int .i64 seq), .v (.int .i64 ack), .v (.bool poll), .v (.bool fin), .v (.int .i64 say), .v (.int .i64 seg), .v (.int .i64 len), .v (.slice Ax data.length kx)])]) (fun s => s.z) (fun s => sdus.length - s.i) ⟨0, e1.got, m1.gA, m1.gC, m1.gV, z7⟩ ⟨Zc.rfl' _, by simp, by simp [tell], hR1.go.mono hzz, hR1.gc, hI.got.1⟩ (by (simp only [wrI, wrR, anyL, st, List.append_nil, List.nil_append, List.cons_append]); exact rfl) ?_ ?_
  · simp only [wldK, wldE, List.cons_append, List.nil_append]
    exact lX
  · rintro ⟨i, g, gA, gC, gV, z8⟩ ⟨hz8, hi, hgl, hge, hgc, hg60⟩
    dsimp only at *
    simp only [wldK, wldE, List.cons_append, List.nil_append]
    refine gO ?_
    (with_reducible refine condI.split (fun hg => ?_) (fun hg => ?_) <;> (try simp only [hg]) <;> (try simp only [seval, go_sem]))
    · have hi' : i < sdus.length := by simp at hg; omega
      obtain ⟨x, hx'⟩ : ∃ x, sdus[i]? = some x := ⟨_, List.getElem?_eq_getElem hi'⟩
      obtain ⟨c1, ⟨v, rfl, hb⟩, hr1⟩ := (he6.mono hz8).at (hr6.mono hz8) hx'
      obtain ⟨Ay, cy, rfl, hcy, hBy, hry⟩ := By.form hb
      have hat := he6.isAt hr6 (by decide) hi'
      refine gO ?_
      (refine ⟨⟨by omega, by omega, hat⟩, ?_⟩; (try simp only [seval, go_sem]))
      (refine ldF.one _ (by first | exact .inl hr1 | exact hr1) ?_; (try simp only [seval, go_sem]))
      refine gO ?_
      (refine ldF.one _ (RdS.cell 10 rfl rfl) ?_; refine gO ?_)
      (with_reducible refine condI.split (fun hg => ?_) (fun hg => ?_) <;> (try simp only [hg]) <;> (try simp only [seval, go_sem]))
      · refine gO ?_
        (refine ldF.one _ (RdS.cell 10 rfl rfl) ?_; refine gO ?_)
        refine aT ?_; (refine appM_newF 33 atyS rfl rfl rfl rfl rfl rfl rfl (by simp [Value.oneCell']) (by omega) (fun A6 c6 hc6 hat6 => ?_)); refine gO ?_
        (refine stoV_row 10 rfl rfl rfl rfl rfl rfl rfl (by rw [endsC_len]; simp) ?_; refine gO ?_)
        rw [ends_gotV1 _ _ _ _ (g ++ [x]) _ _ _ (gV ++ [.slice Ay x.length cy]) (by simp), show g.length + 1 = (g ++ [x]).length by simp]
        refine ⟨⟨i + 1, g ++ [x], A6, c6, gV ++ [.slice Ay x.length cy], z8⟩, ⟨hz8, by dsimp only; omega, ?_, hge.append (Els.single (d := sduRep) ⟨_, rfl, By.mk hcy hBy hry⟩), by simp; exact hc6, by have := of_decide_eq_true hg; simp; omega⟩, by dsimp only; omega, ?_⟩
        · dsimp only; rw [tell_take hx', ← hgl, if_pos (by have := of_decide_eq_true hg; omega)]
        · exact lX
      · refine gO ?_
        refine ⟨⟨i + 1, g, gA, gC, gV, z8⟩, ⟨hz8, by dsimp only; omega, by dsimp only; rw [tell_take hx', ← hgl, if_neg (by have := of_decide_eq_false hg; omega)], hge, hgc, hg60⟩, by dsimp only; omega, ?_⟩
        exact lX
    · have hil : i = sdus.length := by simp at hg; omega
      subst hil
      rw [List.take_length] at hgl
      subst hgl
      refine gO ?_
      have hR8 : WldB z8 e0 { e1 with crx := ⟨out, ⟨rlen, rgot⟩, dead⟩, got := (tell e1.got sdus) } n0 rest ⟨E, EC, N, NC, m0, { m1 with kA := kA, kC := kC, gA := gA, gC := gC, gV := gV }, ⟨A0, C0, ms0⟩, ⟨cutA A1 C1 1 2, C1 - 1, ms⟩⟩ := ⟨hR0.mono (Zc.trans' hzz hz8), { (hR1.mono (Zc.trans' hzz hz8)) with kj := Sl.mono hz8 h5, go := hge, gc := hgc }, hRn0, ⟨hno, hcap1⟩⟩
      (refine callT.give 93 0 2003 rfl rfl (fun b3 => ?_)); simp only [seval, go_sem, giveSt, subV, subC, subE, subL]
      refine wC ?_
      refine tT ?_; refine callW 94 (say_p1 b3 ⟨2, win, mps, mtu, tri⟩ link e0 { e1 with crx := ⟨out, ⟨rlen, rgot⟩, dead⟩, got := (tell e1.got sdus) } n0 rest ⟨E, EC, N, NC, m0, { m1 with kA := kA, kC := kC, gA := gA, gC := gC, gV := gV }, ⟨A0, C0, ms0⟩, ⟨cutA A1 C1 1 2, C1 - 1, ms⟩⟩ [] (.slice none 0 0) z8 hR8 (Sl.nil _ _ _) (by simp) (by simp) (by skip; omega) (by simp at h1; omega)) rfl rfl rfl rfl ?_; rintro v3 z3 A3 hz3 ⟨f0, f1, g0, g1, m3, link3, hw3, rfl, hR9⟩; refine gO ?_
      refine wO ?_
      refine wF5 ?_
      exact ⟨f0, f1, g0, g1, m3, link3, hw3, rfl, hR9⟩
theorem hear_c4_1 (b : Nat) (c : Cfg) (link : Int) (e0 e1 : End) (n0 n1 : List Msg) (msg : Msg) (rest : List Msg) (f : Frm) (m : WM) (z : Zc) (hR : WldB z e0 e1 n0 n1 m) (hI : EndI c e1) (hm : c.mode = 2) (h0 : n0.length ≤ 30) (h1 : n1.length ≤ 30) (h15 : msg.bytes.length ≤ 15) (hn : n1 = msg :: rest) (hf : frmRead msg.bytes = some f) (hok : frmOk f = true) (hkk : f.kind = 4) (hE : IsAt m.E) (hN : IsAt m.N) (hA : IsAt m.n1.A) :
    Spec Tryz.prog 82 [.pointer (some ⟨b, 0, none⟩), .int .i64 1] z (wldP b c link e0 e1 n0 n1 m) fun _ z' A' => WldQ c ⟨c, [e0, e1].set 1 (hearC c e1 f), [n0, n1].set 1 rest, link⟩ b z' A' := by
  subst hn
  obtain ⟨E, EC, N, NC, m0, m1, ⟨A0, C0, ms0⟩, ⟨A1, C1, ms1⟩⟩ := m
  obtain ⟨hR0, hR1, hRn0, hRn1⟩ := hR
  have hno := hRn1.ok
  have hcap := hRn1.cap
  dsimp only at hno hcap hR0 hR1 hRn0 hRn1 hE hN hA
  cases ms1 with
  | nil => exact hno.elim
  | cons x ms =>
  obtain ⟨a, cb⟩ := x
  obtain ⟨⟨hb1, hb2⟩, hno⟩ := hno
  have hvl := netV_len hno
  have hlr : (msg :: rest).length = rest.length + 1 := rfl
  have hnv : List.take (rest.length * 2) (List.drop 2 (netV (msg :: rest) ((a, cb) :: ms))) = netV rest ms := List.take_of_length_le (by show (netV rest ms).length ≤ _; omega)
  have hcap1 : rest.length ≤ C1 - 1 := by rw [hlr] at hcap; omega
  obtain ⟨kind, seq, ack, poll, fin, say, seg, len, data⟩ := f
  dsimp only at hkk
  subst hkk
  obtain ⟨mode, win, mps, mtu, tri⟩ := c
  dsimp only at hm
  subst hm
  (refine spec_enterP [10, 11, 22, 23, 32, 33, 40, 41, 50, 51] Tryz.func82 ic82_ok fr82_ok Tryz.ntmps82 rfl ?_; simp only [seval, go_sem, ic82, fr82, zipL, vals])
  ((first | refine ⟨⟨by omega, hN⟩, ?_⟩ | refine ⟨hN, ?_⟩); (try simp only [seval, go_sem]))
  (refine ldF.one _ (RdS.cell 11 rfl rfl) ?_; refine gO ?_)
  refine ⟨⟨by simp, hA⟩, ?_⟩
  refine gO ?_
  (refine ldF.one _ (RdS.cell 50 rfl rfl) ?_; refine gO ?_)
  refine callT.tf (Tf.split 51 46 rfl rfl rfl) ?_
  dsimp only
  refine callT.frzA 46 rfl (RdA.bys hb1 hb2) (fun z4 hz4 hby => ?_)
  dsimp only at hz4
  simp only [seval, go_sem]
  have hc := frmRead_i msg.bytes _ z4 hby (by omega)
  simp only [hf] at hc
  refine tT ?_; refine callP (hc) rfl rfl ?_; rintro u z5 hz5 ⟨x, rfl, hx⟩; (try simp only [seval, go_sem])
  obtain ⟨Ax, kx, rfl, hkx, hBx, hrx⟩ := hx.form
  try dsimp only at hx
  refine gO ?_
  ((first | refine ⟨⟨by omega, hN⟩, ?_⟩ | refine ⟨hN, ?_⟩); (try simp only [seval, go_sem]))
  (refine ldF.one _ (RdS.cell 11 rfl rfl) ?_; refine gO ?_)
  refine ⟨by omega, ?_⟩; refine gO ?_
  ((first | refine ⟨⟨by omega, hN⟩, ?_⟩ | refine ⟨hN, ?_⟩); (try simp only [seval, go_sem]))
  (refine stoV_row 11 rfl rfl rfl rfl rfl rfl rfl (by simp) ?_; simp only [seval, go_sem, putV]; refine gO ?_)
  ((first | refine ⟨⟨by omega, hE⟩, ?_⟩ | refine ⟨hE, ?_⟩); (try simp only [seval, go_sem]))
  refine gO ?_
  have hz05 := Zc.trans' hz4 hz5
  have hp8 := hI.ctx.small
  have hq24 := hI.ctx.queue
  refine ldF.agg (sz := 5) (ctxL e1 m1) rfl (RdS.part 10 rfl (fun i u hu => ends_sub (l1 := (endsC e0 e1 m0 m1).take 45) (l3 := (endsC e0 e1 m0 m1).drop 50) rfl rfl hu)) ?_
  refine gO ?_
  have hc1 := crdtake_i ⟨2, win, mps, mtu, tri⟩ e1.ctx len _ z5 (hR1.cq.mono hz05) (by omega) (fun p hp => by have := hp8 p hp; omega)
  simp only [crdTakeG_ok hI.ctx (frm4 hok rfl)] at hc1
  rw [show hearC ⟨2, win, mps, mtu, tri⟩ e1 ⟨4, seq, ack, poll, fin, say, seg, len, data⟩ = { e1 with ctx := crdTake e1.ctx len } by unfold hearC; rw [if_pos rfl]]
  generalize crdTake e1.ctx len = tp at hc1 ⊢
  obtain ⟨hav, qu, granted, sent, dead⟩ := tp
  dsimp only at hc1 ⊢
  refine tT ?_; refine callP (hc1) rfl rfl ?_; rintro u z6 hz6 ⟨_, rfl, cA, cC, ccs, rfl, hkc, hec, hrc⟩; refine gO ?_
  try dsimp only at hkc hec
  have hcq : Sl pRep z6 qu (.slice cA qu.length cC) := ⟨_, _, _, rfl, hkc, hec, hrc⟩
  have hzz := Zc.trans' hz05 hz6
  (refine stoV_row 10 rfl rfl rfl rfl rfl rfl rfl (by rw [endsC_len]; simp) ?_; simp only [seval, go_sem, ends_ctx1]; refine gO ?_)
  refine loopV.tf (Tf.cut 50 rfl rfl 1 (rest.length + 1) C1 (by omega) (by simp) hcap (by omega) (.inr (.inr hA))) ?_
  simp only [Nat.one_mul, Nat.add_sub_cancel, hnv]
  refine loopV.rounds 1 ?_
  rw [roundsV_succ]
  refine gO ?_
  try simp only [seval, go_sem, show decide ((0 : Int) < ((0 : Nat) : Int)) = false from rfl]
  refine gO ?_
  simp only [seval, go_sem, roundK_exit]
  refine gO ?_
  have hR8 : WldB z6 e0 { e1 with ctx := ⟨hav, qu, granted, sent, dead⟩ } n0 rest ⟨E, EC, N, NC, m0, { m1 with cA := cA, cC := cC }, ⟨A0, C0, ms0⟩, ⟨cutA A1 C1 1 2, C1 - 1, ms⟩⟩ := ⟨hR0.mono hzz, { (hR1.mono hzz) with cq := hcq }, hRn0, ⟨hno, hcap1⟩⟩
  (refine callT.give 93 0 2003 rfl rfl (fun b3 => ?_)); simp only [seval, go_sem, giveSt, subV, subC, subE, subL]
  refine wC ?_
  refine tT ?_; refine callW 94 (say_p1 b3 ⟨2, win, mps, mtu, tri⟩ link e0 { e1 with ctx := ⟨hav, qu, granted, sent, dead⟩ } n0 rest ⟨E, EC, N, NC, m0, { m1 with cA := cA, cC := cC }, ⟨A0, C0, ms0⟩, ⟨cutA A1 C1 1 2, C1 - 1, ms⟩⟩ [] (.slice none 0 0) z6 hR8 (Sl.nil _ _ _) (by simp) (by simp) (by skip; omega) (by simp at h1; omega)) rfl rfl rfl rfl ?_; rintro v3 z3 A3 hz3 ⟨f0, f1, g0, g1, m3, link3, hw3, rfl, hR9⟩; refine gO ?_
  refine wO ?_
  refine wF5 ?_
  exact ⟨f0, f1, g0, g1, m3, link3, hw3, rfl, hR9⟩
def KindI (c : Cfg) (l : List Msg) : Prop := ∀ m ∈ l, ∀ f, frmRead m.bytes = some f → (c.mode = 1 → f.kind = 1 ∨ f.kind = 2) ∧ (c.mode = 2 → f.kind = 3 ∨ f.kind = 4)
def StepOk (w : Wld) (ev : Evt) : Prop := (1 ≤ ev.kind ∧ ev.kind ≤ 11) ∧ (ev.who = 0 ∨ ev.who = 1) ∧ ev.data.length ≤ 100 ∧ ∀ i, i < 2 → KindI w.cfg (netAt w i)
theorem nil_or {α : Type} (l : List α) : l = [] ∨ ∃ x r, l = x :: r := by cases l; exact .inl rfl; exact .inr ⟨_, _, rfl⟩
def StepP (Q : Wld → Evt → Prop) : Prop := ∀ (b : Nat) (c : Cfg) (link : Int) (e0 e1 : End) (n0 n1 : List Msg) (m : WM) (ev : Evt) (v : Value) (z : Zc), By z ev.data v → WldB z e0 e1 n0 n1 m → WldI ⟨c, [e0, e1], [n0, n1], link⟩ → Q ⟨c, [e0, e1], [n0, n1], link⟩ ev →
    Spec Tryz.prog 45 [.pointer (some ⟨b, 0, none⟩), vEvt ev v] z (wldP b c link e0 e1 n0 n1 m) fun _ z' A' => WldQ c (step false ⟨c, [e0, e1], [n0, n1], link⟩ ev) b z' A'
theorem step_h0 (b : Nat) (c : Cfg) (link : Int) (e0 e1 : End) (n0 n1 : List Msg) (msg : Msg) (rest : List Msg) (m : WM) (ev : Evt) (v : Value) (z : Zc) (hv : By z ev.data v) (hR : WldB z e0 e1 n0 n1 m) (W' : Wld) (hc : IsAt m.E → IsAt m.N → IsAt m.n0.A → ∀ bb, Spec Tryz.prog 82 [.pointer (some ⟨bb, 0, none⟩), .int .i64 0] z (wldP bb c link e0 e1 n0 n1 m) fun _ z' A' => WldQ c W' bb z' A') (hn : n0 = msg :: rest) (hw : ev.who = 0) (hk : ev.kind = 7) :
    Spec Tryz.prog 45 [.pointer (some ⟨b, 0, none⟩), vEvt ev v] z (wldP b c link e0 e1 n0 n1 m) fun _ z' A' => WldQ c W' b z' A' := by
  obtain ⟨Av, kv, rfl, hkv, hBv, hrv⟩ := hv.form
  have hs : decide ((n0.length : Int) > 0) = true := decide_eq_true (by rw [hn]; simp)
  have hp : 0 < n0.length := by rw [hn]; simp
  obtain ⟨kind, who, at_, vv, data⟩ := ev
  dsimp only at *
  subst hw
  subst hk
  (refine spec_enterP [10, 11, 22, 23, 32, 33, 40, 41, 50, 51] Tryz.func45 ic45_ok fr45_ok Tryz.ntmps45 rfl ?_; simp only [seval, go_sem, ic45, fr45, zipL, vals])
  refine vsI.atR 11 rfl fun hN => ?_
  have hN := hN (by omega)
  refine vsI.atR 10 rfl fun hE => ?_
  have hE := hE (by omega)
  refine vsI.atR 40 rfl fun hA => ?_
  have hA := hA hp
  refine gO ?_
  refine tT ?_; refine callP (in_i 0 0 1 z) rfl rfl ?_; rintro _ _ - ⟨rfl, rfl⟩; refine gO ?_
  simp only [seval, go_sem, show inB 0 0 1 = true from rfl, show inB 1 0 1 = true from rfl]
  refine gO ?_
  ((first | refine ⟨⟨by omega, hN⟩, ?_⟩ | refine ⟨hN, ?_⟩); (try simp only [seval, go_sem]))
  refine gO ?_
  (refine ldF.one _ (RdS.cell 11 rfl rfl) ?_; refine gO ?_)
  repeat (simp only [seval, go_sem, hs]; refine gO ?_)
  (refine callT.give 93 0 2003 rfl rfl (fun b3 => ?_)); simp only [seval, go_sem, giveSt, subV, subC, subE, subL]
  refine wC ?_
  refine tT ?_; refine callW 94 (hc hE hN hA b3) rfl rfl rfl rfl ?_; rintro v3 z3 A3 hz3 ⟨f0, f1, g0, g1, m3, link3, hw3, rfl, hR3⟩; refine gO ?_
  refine wO ?_
  refine wF5 ?_
  exact ⟨f0, f1, g0, g1, m3, link3, hw3, rfl, hR3⟩
theorem step_e7_0 (b : Nat) (c : Cfg) (link : Int) (e0 e1 : End) (n0 n1 : List Msg) (m : WM) (ev : Evt) (v : Value) (z : Zc) (hv : By z ev.data v) (hR : WldB z e0 e1 n0 n1 m) (hn : n0 = []) (hw : ev.who = 0) (hk : ev.kind = 7) :
    Spec Tryz.prog 45 [.pointer (some ⟨b, 0, none⟩), vEvt ev v] z (wldP b c link e0 e1 n0 n1 m) fun _ z' A' => WldQ c ⟨c, [e0, e1], [n0, n1], link⟩ b z' A' := by
  obtain ⟨Av, kv, rfl, hkv, hBv, hrv⟩ := hv.form
  have hs : decide ((n0.length : Int) > 0) = false := decide_eq_false (by rw [hn]; simp)
  obtain ⟨kind, who, at_, vv, data⟩ := ev
  dsimp only at *
  subst hw
  subst hk
  (refine spec_enterP [10, 11, 22, 23, 32, 33, 40, 41, 50, 51] Tryz.func45 ic45_ok fr45_ok Tryz.ntmps45 rfl ?_; simp only [seval, go_sem, ic45, fr45, zipL, vals])
  refine vsI.atR 11 rfl fun hN => ?_
  have hN := hN (by omega)
  refine gO ?_
  refine tT ?_; refine callP (in_i 0 0 1 z) rfl rfl ?_; rintro _ _ - ⟨rfl, rfl⟩; refine gO ?_
  simp only [seval, go_sem, show inB 0 0 1 = true from rfl, show inB 1 0 1 = true from rfl]
  refine gO ?_
  ((first | refine ⟨⟨by omega, hN⟩, ?_⟩ | refine ⟨hN, ?_⟩); (try simp only [seval, go_sem]))
  refine gO ?_
  (refine ldF.one _ (RdS.cell 11 rfl rfl) ?_; refine gO ?_)
  repeat (simp only [seval, go_sem, hs]; refine gO ?_)
  refine wF5 ?_
  exact WldQ.mk hR
theorem step_h1 (b : Nat) (c : Cfg) (link : Int) (e0 e1 : End) (n0 n1 : List Msg) (msg : Msg) (rest : List Msg) (m : WM) (ev : Evt) (v : Value) (z : Zc) (hv : By z ev.data v) (hR : WldB z e0 e1 n0 n1 m) (W' : Wld) (hc : IsAt m.E → IsAt m.N → IsAt m.n1.A → ∀ bb, Spec Tryz.prog 82 [.pointer (some ⟨bb, 0, none⟩), .int .i64 1] z (wldP bb c link e0 e1 n0 n1 m) fun _ z' A' => WldQ c W' bb z' A') (hn : n1 = msg :: rest) (hw : ev.who = 1) (hk : ev.kind = 7) :
    Spec Tryz.prog 45 [.pointer (some ⟨b, 0, none⟩), vEvt ev v] z (wldP b c link e0 e1 n0 n1 m) fun _ z' A' => WldQ c W' b z' A' := by
  obtain ⟨Av, kv, rfl, hkv, hBv, hrv⟩ := hv.form
  have hs : decide ((n1.length : Int) > 0) = true := decide_eq_true (by rw [hn]; simp)
  have hp : 0 < n1.length := by rw [hn]; simp
  obtain ⟨kind, who, at_, vv, data⟩ := ev
  dsimp only at *
  subst hw
  subst hk
  (refine spec_enterP [10, 11, 22, 23, 32, 33, 40, 41, 50, 51] Tryz.func45 ic45_ok fr45_ok Tryz.ntmps45 rfl ?_; simp only [seval, go_sem, ic45, fr45, zipL, vals])
  refine vsI.atR 11 rfl fun hN => ?_
  have hN := hN (by omega)
  refine vsI.atR 10 rfl fun hE => ?_
  have hE := hE (by omega)
  refine vsI.atR 50 rfl fun hA => ?_
  have hA := hA hp
  refine gO ?_
  refine tT ?_; refine callP (in_i 1 0 1 z) rfl rfl ?_; rintro _ _ - ⟨rfl, rfl⟩; refine gO ?_
  simp only [seval, go_sem, show inB 0 0 1 = true from rfl, show inB 1 0 1 = true from rfl]
  refine gO ?_
  ((first | refine ⟨⟨by omega, hN⟩, ?_⟩ | refine ⟨hN, ?_⟩); (try simp only [seval, go_sem]))
  refine gO ?_
  (refine ldF.one _ (RdS.cell 11 rfl rfl) ?_; refine gO ?_)
  repeat (simp only [seval, go_sem, hs]; refine gO ?_)
  (refine callT.give 93 0 2003 rfl rfl (fun b3 => ?_)); simp only [seval, go_sem, giveSt, subV, subC, subE, subL]
  refine wC ?_
  refine tT ?_; refine callW 94 (hc hE hN hA b3) rfl rfl rfl rfl ?_; rintro v3 z3 A3 hz3 ⟨f0, f1, g0, g1, m3, link3, hw3, rfl, hR3⟩; refine gO ?_
  refine wO ?_
  refine wF5 ?_
  exact ⟨f0, f1, g0, g1, m3, link3, hw3, rfl, hR3⟩
theorem step_e7_1 (b : Nat) (c : Cfg) (link : Int) (e0 e1 : End) (n0 n1 : List Msg) (m : WM) (ev : Evt) (v : Value) (z : Zc) (hv : By z ev.data v) (hR : WldB z e0 e1 n0 n1 m) (hn : n1 = []) (hw : ev.who = 1) (hk : ev.kind = 7) :
    Spec Tryz.prog 45 [.pointer (some ⟨b, 0, none⟩), vEvt ev v] z (wldP b c link e0 e1 n0 n1 m) fun _ z' A' => WldQ c ⟨c, [e0, e1], [n0, n1], link⟩ b z' A' := by
  obtain ⟨Av, kv, rfl, hkv, hBv, hrv⟩ := hv.form
  have hs : decide ((n1.length : Int) > 0) = false := decide_eq_false (by rw [hn]; simp)
  obtain ⟨kind, who, at_, vv, data⟩ := ev
  dsimp only at *
  subst hw
  subst hk
  (refine spec_enterP [10, 11, 22, 23, 32, 33, 40, 41, 50, 51] Tryz.func45 ic45_ok fr45_ok Tryz.ntmps45 rfl ?_; simp only [seval, go_sem, ic45, fr45, zipL, vals])
  refine vsI.atR 11 rfl fun hN => ?_
  have hN := hN (by omega)
  refine gO ?_
  refine tT ?_; refine callP (in_i 1 0 1 z) rfl rfl ?_; rintro _ _ - ⟨rfl, rfl⟩; refine gO ?_
  simp only [seval, go_sem, show inB 0 0 1 = true from rfl, show inB 1 0 1 = true from rfl]
  refine gO ?_
  ((first | refine ⟨⟨by omega, hN⟩, ?_⟩ | refine ⟨hN, ?_⟩); (try simp only [seval, go_sem]))
  refine gO ?_
  (refine ldF.one _ (RdS.cell 11 rfl rfl) ?_; refine gO ?_)
  repeat (simp only [seval, go_sem, hs]; refine gO ?_)
  refine wF5 ?_
  exact WldQ.mk hR
theorem crd_all0 (b : Nat) (c : Cfg) (link : Int) (e0 e1 : End) (n0 n1 : List Msg) (m : WM) (ev : Evt) (v : Value) (z : Zc) (hv : By z ev.data v) (hd : ev.data.length ≤ 100) (hR : WldB z e0 e1 n0 n1 m) (hI : EndI c e0) (h0 : n0.length ≤ 30) (h1 : n1.length ≤ 30) (hw : ev.who = 0) (hk : 1 ≤ ev.kind ∧ ev.kind ≤ 6) :
    Spec Tryz.prog 85 [.pointer (some ⟨b, 0, none⟩), vEvt ev v] z (wldP b c link e0 e1 n0 n1 m) fun _ z' A' => WldQ c (forCrd ⟨c, [e0, e1], [n0, n1], link⟩ 0 ev) b z' A' := by
  have : ev.kind = 1 ∨ ev.kind = 2 ∨ ev.kind = 6 ∨ (ev.kind = 3 ∨ ev.kind = 4 ∨ ev.kind = 5) := by omega
  rcases this with h | h | h | h
  · exact crd_put0 b c link e0 e1 n0 n1 m ev v z hv (by omega) hR hI hw h
  · exact crd_send0 b c link e0 e1 n0 n1 m ev v z hv hR hI h0 h1 hw h
  · exact crd_grant0 b c link e0 e1 n0 n1 m ev v z hv hR hI h0 h1 hw h
  · exact crd_none0 b c link e0 e1 n0 n1 m ev v z hv hR hw h
theorem crd_all1 (b : Nat) (c : Cfg) (link : Int) (e0 e1 : End) (n0 n1 : List Msg) (m : WM) (ev : Evt) (v : Value) (z : Zc) (hv : By z ev.data v) (hd : ev.data.length ≤ 100) (hR : WldB z e0 e1 n0 n1 m) (hI : EndI c e1) (h0 : n0.length ≤ 30) (h1 : n1.length ≤ 30) (hw : ev.who = 1) (hk : 1 ≤ ev.kind ∧ ev.kind ≤ 6) :
    Spec Tryz.prog 85 [.pointer (some ⟨b, 0, none⟩), vEvt ev v] z (wldP b c link e0 e1 n0 n1 m) fun _ z' A' => WldQ c (forCrd ⟨c, [e0, e1], [n0, n1], link⟩ 1 ev) b z' A' := by
  have : ev.kind = 1 ∨ ev.kind = 2 ∨ ev.kind = 6 ∨ (ev.kind = 3 ∨ ev.kind = 4 ∨ ev.kind = 5) := by omega
  rcases this with h | h | h | h
  · exact crd_put1 b c link e0 e1 n0 n1 m ev v z hv (by omega) hR hI hw h
  · exact crd_send1 b c link e0 e1 n0 n1 m ev v z hv hR hI h0 h1 hw h
  · exact crd_grant1 b c link e0 e1 n0 n1 m ev v z hv hR hI h0 h1 hw h
  · exact crd_none1 b c link e0 e1 n0 n1 m ev v z hv hR hw h
theorem step_c0 (b : Nat) (c : Cfg) (link : Int) (e0 e1 : End) (n0 n1 : List Msg) (m : WM) (ev : Evt) (v : Value) (z : Zc) (hv : By z ev.data v) (hd : ev.data.length ≤ 100) (hR : WldB z e0 e1 n0 n1 m) (hI : EndI c e0) (h0 : n0.length ≤ 30) (h1 : n1.length ≤ 30) (hm : c.mode = 2) (hw : ev.who = 0) (hk : 1 ≤ ev.kind ∧ ev.kind ≤ 6) :
    Spec Tryz.prog 45 [.pointer (some ⟨b, 0, none⟩), vEvt ev v] z (wldP b c link e0 e1 n0 n1 m) fun _ z' A' => WldQ c (forCrd ⟨c, [e0, e1], [n0, n1], link⟩ 0 ev) b z' A' := by
  obtain ⟨Av, kv, rfl, hkv, hBv, hrv⟩ := hv.form
  have hc := fun bb => crd_all0 bb c link e0 e1 n0 n1 m ev _ z hv hd hR hI h0 h1 hw hk
  obtain ⟨kind, who, at_, vv, data⟩ := ev
  obtain ⟨mode, win, mps, mtu, tri⟩ := c
  dsimp only at *
  subst hw
  subst hm
  have k7 : (kind == 7) = false := by simp; omega
  have k8 : (kind == 8) = false := by simp; omega
  have k9 : (kind == 9) = false := by simp; omega
  have k10 : (kind == 10) = false := by simp; omega
  have k11 : (kind == 11) = false := by simp; omega
  have l7 : decide (kind < 7) = true := decide_eq_true (by omega)
  (refine spec_enterP [10, 11, 22, 23, 32, 33, 40, 41, 50, 51] Tryz.func45 ic45_ok fr45_ok Tryz.ntmps45 rfl ?_; simp only [seval, go_sem, ic45, fr45, zipL, vals])
  refine vsI.atR 11 rfl fun hN => ?_
  have hN := hN (by omega)
  refine gO ?_
  refine tT ?_; refine callP (in_i 0 0 1 z) rfl rfl ?_; rintro _ _ - ⟨rfl, rfl⟩; refine gO ?_
  simp only [seval, go_sem, show inB 0 0 1 = true from rfl, show inB 1 0 1 = true from rfl]
  refine gO ?_
  ((first | refine ⟨⟨by omega, hN⟩, ?_⟩ | refine ⟨hN, ?_⟩); (try simp only [seval, go_sem]))
  refine gO ?_
  (refine ldF.one _ (RdS.cell 11 rfl rfl) ?_; refine gO ?_)
  repeat (simp only [seval, go_sem, k7, k8, k9, k10, k11, l7]; refine gO ?_)
  (refine callT.give 93 0 2003 rfl rfl (fun b3 => ?_)); simp only [seval, go_sem, giveSt, subV, subC, subE, subL]
  refine wC ?_
  refine tT ?_; refine callW 94 (hc b3) rfl rfl rfl rfl ?_; rintro v3 z3 A3 hz3 ⟨f0, f1, g0, g1, m3, link3, hw3, rfl, hR3⟩; refine gO ?_
  refine wO ?_
  refine wF5 ?_
  exact ⟨f0, f1, g0, g1, m3, link3, hw3, rfl, hR3⟩
theorem step_c1 (b : Nat) (c : Cfg) (link : Int) (e0 e1 : End) (n0 n1 : List Msg) (m : WM) (ev : Evt) (v : Value) (z : Zc) (hv : By z ev.data v) (hd : ev.data.length ≤ 100) (hR : WldB z e0 e1 n0 n1 m) (hI : EndI c e1) (h0 : n0.length ≤ 30) (h1 : n1.length ≤ 30) (hm : c.mode = 2) (hw : ev.who = 1) (hk : 1 ≤ ev.kind ∧ ev.kind ≤ 6) :
    Spec Tryz.prog 45 [.pointer (some ⟨b, 0, none⟩), vEvt ev v] z (wldP b c link e0 e1 n0 n1 m) fun _ z' A' => WldQ c (forCrd ⟨c, [e0, e1], [n0, n1], link⟩ 1 ev) b z' A' := by
  obtain ⟨Av, kv, rfl, hkv, hBv, hrv⟩ := hv.form
  have hc := fun bb => crd_all1 bb c link e0 e1 n0 n1 m ev _ z hv hd hR hI h0 h1 hw hk
  obtain ⟨kind, who, at_, vv, data⟩ := ev
  obtain ⟨mode, win, mps, mtu, tri⟩ := c
  dsimp only at *
  subst hw
  subst hm
  have k7 : (kind == 7) = false := by simp; omega
  have k8 : (kind == 8) = false := by simp; omega
  have k9 : (kind == 9) = false := by simp; omega
  have k10 : (kind == 10) = false := by simp; omega
  have k11 : (kind == 11) = false := by simp; omega
  have l7 : decide (kind < 7) = true := decide_eq_true (by omega)
  (refine spec_enterP [10, 11, 22, 23, 32, 33, 40, 41, 50, 51] Tryz.func45 ic45_ok fr45_ok Tryz.ntmps45 rfl ?_; simp only [seval, go_sem, ic45, fr45, zipL, vals])
  refine vsI.atR 11 rfl fun hN => ?_
  have hN := hN (by omega)
  refine gO ?_
  refine tT ?_; refine callP (in_i 1 0 1 z) rfl rfl ?_; rintro _ _ - ⟨rfl, rfl⟩; refine gO ?_
  simp only [seval, go_sem, show inB 0 0 1 = true from rfl, show inB 1 0 1 = true from rfl]
  refine gO ?_
  ((first | refine ⟨⟨by omega, hN⟩, ?_⟩ | refine ⟨hN, ?_⟩); (try simp only [seval, go_sem]))
  refine gO ?_
  (refine ldF.one _ (RdS.cell 11 rfl rfl) ?_; refine gO ?_)
  repeat (simp only [seval, go_sem, k7, k8, k9, k10, k11, l7]; refine gO ?_)
  (refine callT.give 93 0 2003 rfl rfl (fun b3 => ?_)); simp only [seval, go_sem, giveSt, subV, subC, subE, subL]
  refine wC ?_
  refine tT ?_; refine callW 94 (hc b3) rfl rfl rfl rfl ?_; rintro v3 z3 A3 hz3 ⟨f0, f1, g0, g1, m3, link3, hw3, rfl, hR3⟩; refine gO ?_
  refine wO ?_
  refine wF5 ?_
  exact ⟨f0, f1, g0, g1, m3, link3, hw3, rfl, hR3⟩
theorem hear_allC0 (b : Nat) (c : Cfg) (link : Int) (e0 e1 : End) (n0 n1 : List Msg) (msg : Msg) (rest : List Msg) (m : WM) (z : Zc) (hR : WldB z e0 e1 n0 n1 m) (hW : WldI ⟨c, [e0, e1], [n0, n1], link⟩) (hK : KindI c n0) (hm : c.mode = 2) (hn : n0 = msg :: rest) (hE : IsAt m.E) (hN : IsAt m.N) (hA : IsAt m.n0.A) :
    Spec Tryz.prog 82 [.pointer (some ⟨b, 0, none⟩), .int .i64 0] z (wldP b c link e0 e1 n0 n1 m) fun _ z' A' => WldQ c (hear1 ⟨c, [e0, e1], [n0, n1], link⟩ 0) b z' A' := by
  have hI : EndI c e0 := hW.ends 0 (by omega)
  have hN0 : NetI n0 := hW.net 0 (by omega)
  have hN1 : NetI n1 := hW.net 1 (by omega)
  have hNk : NetI n0 := hW.net 0 (by omega)
  have h15 : msg.bytes.length ≤ 15 := hNk.2 msg (by rw [hn]; exact List.mem_cons_self)
  have hna : netAt ⟨c, [e0, e1], [n0, n1], link⟩ 0 = msg :: rest := hn
  have hh : hear1 ⟨c, [e0, e1], [n0, n1], link⟩ 0 = match frmRead msg.bytes with
      | none => setNet ⟨c, [e0, e1], [n0, n1], link⟩ 0 rest
      | some f => hearF (setNet ⟨c, [e0, e1], [n0, n1], link⟩ 0 rest) 0 f := by
    unfold hear1
    rw [hna]
    rfl
  rw [hh]
  cases hf : frmRead msg.bytes with
  | none => exact hear_no0 b c link e0 e1 n0 n1 msg rest m z hR (by omega) (by have := hNk.1; omega) hn hE hN hA hf
  | some f =>
    have hok := (frmRead_ok hf).1
    obtain ⟨k1, k2⟩ := hK msg (by rw [hn]; exact List.mem_cons_self) f hf
    simp only
    have e : hearF (setNet ⟨c, [e0, e1], [n0, n1], link⟩ 0 rest) 0 f = ⟨c, [e0, e1].set 0 (hearC c e0 f), [n0, n1].set 0 rest, link⟩ := by
      unfold hearF hearC
      simp only
      rw [if_neg (by show ¬ c.mode = 1; omega)]
      rcases k2 hm with h | h
      · rw [if_neg (by omega), if_pos h, if_neg (by omega), if_pos h]
        rfl
      · rw [if_pos h, if_pos h]
        rfl
    rw [e]
    rcases k2 hm with h | h
    · exact hear_c3_0 b c link e0 e1 n0 n1 msg rest f m z hR hI hm hN0.1 hN1.1 h15 hn hf hok h hE hN hA
    · exact hear_c4_0 b c link e0 e1 n0 n1 msg rest f m z hR hI hm hN0.1 hN1.1 h15 hn hf hok h hE hN hA
theorem hear_allC1 (b : Nat) (c : Cfg) (link : Int) (e0 e1 : End) (n0 n1 : List Msg) (msg : Msg) (rest : List Msg) (m : WM) (z : Zc) (hR : WldB z e0 e1 n0 n1 m) (hW : WldI ⟨c, [e0, e1], [n0, n1], link⟩) (hK : KindI c n1) (hm : c.mode = 2) (hn : n1 = msg :: rest) (hE : IsAt m.E) (hN : IsAt m.N) (hA : IsAt m.n1.A) :
    Spec Tryz.prog 82 [.pointer (some ⟨b, 0, none⟩), .int .i64 1] z (wldP b c link e0 e1 n0 n1 m) fun _ z' A' => WldQ c (hear1 ⟨c, [e0, e1], [n0, n1], link⟩ 1) b z' A' := by
  have hI : EndI c e1 := hW.ends 1 (by omega)
  have hN0 : NetI n0 := hW.net 0 (by omega)
  have hN1 : NetI n1 := hW.net 1 (by omega)
  have hNk : NetI n1 := hW.net 1 (by omega)
  have h15 : msg.bytes.length ≤ 15 := hNk.2 msg (by rw [hn]; exact List.mem_cons_self)
  have hna : netAt ⟨c, [e0, e1], [n0, n1], link⟩ 1 = msg :: rest := hn
  have hh : hear1 ⟨c, [e0, e1], [n0, n1], link⟩ 1 = match frmRead msg.bytes with
      | none => setNet ⟨c, [e0, e1], [n0, n1], link⟩ 1 rest
      | some f => hearF (setNet ⟨c, [e0, e1], [n0, n1], link⟩ 1 rest) 1 f := by
    unfold hear1
    rw [hna]
    rfl
  rw [hh]
  cases hf : frmRead msg.bytes with
  | none => exact hear_no1 b c link e0 e1 n0 n1 msg rest m z hR (by omega) (by have := hNk.1; omega) hn hE hN hA hf
  | some f =>
    have hok := (frmRead_ok hf).1
    obtain ⟨k1, k2⟩ := hK msg (by rw [hn]; exact List.mem_cons_self) f hf
    simp only
    have e : hearF (setNet ⟨c, [e0, e1], [n0, n1], link⟩ 1 rest) 1 f = ⟨c, [e0, e1].set 1 (hearC c e1 f), [n0, n1].set 1 rest, link⟩ := by
      unfold hearF hearC
      simp only
      rw [if_neg (by show ¬ c.mode = 1; omega)]
      rcases k2 hm with h | h
      · rw [if_neg (by omega), if_pos h, if_neg (by omega), if_pos h]
        rfl
      · rw [if_pos h, if_pos h]
        rfl
    rw [e]
    rcases k2 hm with h | h
    · exact hear_c3_1 b c link e0 e1 n0 n1 msg rest f m z hR hI hm hN0.1 hN1.1 h15 hn hf hok h hE hN hA
    · exact hear_c4_1 b c link e0 e1 n0 n1 msg rest f m z hR hI hm hN0.1 hN1.1 h15 hn hf hok h hE hN hA
theorem step_qC0 (b : Nat) (c : Cfg) (link : Int) (e0 e1 : End) (n0 n1 : List Msg) (m : WM) (ev : Evt) (v : Value) (z : Zc) (hv : By z ev.data v) (hR : WldB z e0 e1 n0 n1 m) (hW : WldI ⟨c, [e0, e1], [n0, n1], link⟩) (hS : StepOk ⟨c, [e0, e1], [n0, n1], link⟩ ev) (hm : c.mode = 2) (hk9 : ev.kind ≤ 7) (hw : ev.who = 0) :
    Spec Tryz.prog 45 [.pointer (some ⟨b, 0, none⟩), vEvt ev v] z (wldP b c link e0 e1 n0 n1 m) fun _ z' A' => WldQ c (step false ⟨c, [e0, e1], [n0, n1], link⟩ ev) b z' A' := by
  obtain ⟨hk, _, hd, hK⟩ := hS
  have hK := hK 0 (by omega)
  have hI : EndI c e0 := hW.ends 0 (by omega)
  have hN0 : NetI n0 := hW.net 0 (by omega)
  have hN1 : NetI n1 := hW.net 1 (by omega)
  have hl : 0 ≤ link ∧ link ≤ 1 := hW.link
  have hn : netAt ⟨c, [e0, e1], [n0, n1], link⟩ 0 = n0 := rfl
  rw [hn] at hK
  have e0' : ev.who.toNat = 0 := by omega
  unfold step
  rw [if_neg (by omega)]
  simp only [e0']
  by_cases h7 : ev.kind = 7
  · rw [if_pos h7]
    rcases nil_or n0 with hn0 | ⟨msg, rest, hn0⟩
    · rw [show hear1 ⟨c, [e0, e1], [n0, n1], link⟩ 0 = ⟨c, [e0, e1], [n0, n1], link⟩ by unfold hear1; rw [hn, hn0]]
      exact step_e7_0 b c link e0 e1 n0 n1 m ev v z hv hR hn0 hw h7
    · exact step_h0 b c link e0 e1 n0 n1 msg rest m ev v z hv hR _ (fun h1 h2 h3 bb => hear_allC0 bb c link e0 e1 n0 n1 msg rest m z hR hW hK hm hn0 h1 h2 h3) hn0 hw h7
  rw [if_neg h7]
  rw [if_neg (by omega), if_neg (by omega), if_neg (by omega), if_neg (by omega)]
  rw [if_neg (by show ¬ c.mode = 1; omega)]
  exact step_c0 b c link e0 e1 n0 n1 m ev v z hv hd hR hI hN0.1 hN1.1 hm hw (by omega)
theorem step_qC1 (b : Nat) (c : Cfg) (link : Int) (e0 e1 : End) (n0 n1 : List Msg) (m : WM) (ev : Evt) (v : Value) (z : Zc) (hv : By z ev.data v) (hR : WldB z e0 e1 n0 n1 m) (hW : WldI ⟨c, [e0, e1], [n0, n1], link⟩) (hS : StepOk ⟨c, [e0, e1], [n0, n1], link⟩ ev) (hm : c.mode = 2) (hk9 : ev.kind ≤ 7) (hw : ev.who = 1) :
    Spec Tryz.prog 45 [.pointer (some ⟨b, 0, none⟩), vEvt ev v] z (wldP b c link e0 e1 n0 n1 m) fun _ z' A' => WldQ c (step false ⟨c, [e0, e1], [n0, n1], link⟩ ev) b z' A' := by
  obtain ⟨hk, _, hd, hK⟩ := hS
  have hK := hK 1 (by omega)
  have hI : EndI c e1 := hW.ends 1 (by omega)
  have hN0 : NetI n0 := hW.net 0 (by omega)
  have hN1 : NetI n1 := hW.net 1 (by omega)
  have hl : 0 ≤ link ∧ link ≤ 1 := hW.link
  have hn : netAt ⟨c, [e0, e1], [n0, n1], link⟩ 1 = n1 := rfl
  rw [hn] at hK
  have e0' : ev.who.toNat = 1 := by omega
  unfold step
  rw [if_neg (by omega)]
  simp only [e0']
  by_cases h7 : ev.kind = 7
  · rw [if_pos h7]
    rcases nil_or n1 with hn0 | ⟨msg, rest, hn0⟩
    · rw [show hear1 ⟨c, [e0, e1], [n0, n1], link⟩ 1 = ⟨c, [e0, e1], [n0, n1], link⟩ by unfold hear1; rw [hn, hn0]]
      exact step_e7_1 b c link e0 e1 n0 n1 m ev v z hv hR hn0 hw h7
    · exact step_h1 b c link e0 e1 n0 n1 msg rest m ev v z hv hR _ (fun h1 h2 h3 bb => hear_allC1 bb c link e0 e1 n0 n1 msg rest m z hR hW hK hm hn0 h1 h2 h3) hn0 hw h7
  rw [if_neg h7]
  rw [if_neg (by omega), if_neg (by omega), if_neg (by omega), if_neg (by omega)]
  rw [if_neg (by show ¬ c.mode = 1; omega)]
  exact step_c1 b c link e0 e1 n0 n1 m ev v z hv hd hR hI hN0.1 hN1.1 hm hw (by omega)
def QC (w : Wld) (ev : Evt) : Prop := StepOk w ev ∧ w.cfg.mode = 2 ∧ ev.kind ≤ 7
theorem stepP_C : StepP QC := fun b c link e0 e1 n0 n1 m ev v z hv hR hW hQ => hQ.1.2.1.elim (fun hw => step_qC0 b c link e0 e1 n0 n1 m ev v z hv hR hW hQ.1 hQ.2.1 hQ.2.2 hw) fun hw => step_qC1 b c link e0 e1 n0 n1 m ev v z hv hR hW hQ.1 hQ.2.1 hQ.2.2 hw
set_option maxHeartbeats 2000000
theorem step_i1 (b : Nat) (c : Cfg) (link : Int) (e0 e1 : End) (n0 n1 : List Msg) (m : WM) (ev : Evt) (v : Value) (z : Zc) (hv : By z ev.data v) (hd : ev.data.length ≤ 100) (hR : WldB z e0 e1 n0 n1 m) (h30 : n1.length ≤ 30) (hw : ev.who = 1) (hk : ev.kind = 11) :
    Spec Tryz.prog 45 [.pointer (some ⟨b, 0, none⟩), vEvt ev v] z (wldP b c link e0 e1 n0 n1 m) fun _ z' A' => WldQ c (if n1.length < 30 ∧ ev.data.length ≤ 15 then ⟨c, [e0, e1], [n0, n1].set 1 (n1 ++ [⟨false, ev.data⟩]), link⟩ else ⟨c, [e0, e1], [n0, n1], link⟩) b z' A' := by
  obtain ⟨Av, kv, rfl, hkv, hBv, hrv⟩ := hv.form
  obtain ⟨kind, who, at_, vv, data⟩ := ev
  dsimp only at *
  subst hw
  subst hk
  have hlen := hR.n1.ok.len
  have hvl := netV_len hR.n1.ok
  by_cases h3 : n1.length < 30
  · have hroom := fun bb => room1 bb c link e0 e1 n0 n1 m z (by omega)
    simp only [decide_eq_true h3] at hroom
    by_cases h15 : data.length ≤ 15
    · have d15 : decide ((data.length : Int) ≤ 15) = true := decide_eq_true (by omega)
      rw [if_pos ⟨h3, h15⟩]
      (refine spec_enterP [10, 11, 22, 23, 32, 33, 40, 41, 50, 51] Tryz.func45 ic45_ok fr45_ok Tryz.ntmps45 rfl ?_; simp only [seval, go_sem, ic45, fr45, zipL, vals])
      refine vsI.atR 11 rfl fun hN => ?_
      have hN := hN (by omega)
      refine gO ?_
      refine tT ?_; refine callP (in_i 1 0 1 z) rfl rfl ?_; rintro _ _ - ⟨rfl, rfl⟩; refine gO ?_
      simp only [seval, go_sem, show inB 0 0 1 = true from rfl, show inB 1 0 1 = true from rfl]
      refine gO ?_
      ((first | refine ⟨⟨by omega, hN⟩, ?_⟩ | refine ⟨hN, ?_⟩); (try simp only [seval, go_sem]))
      refine gO ?_
      (refine ldF.one _ (RdS.cell 11 rfl rfl) ?_; refine gO ?_)
      (refine callT.give 90 0 2001 rfl rfl (fun bb => ?_)); simp only [seval, go_sem, giveSt, subV, subC, subE, subL]
      refine wD ?_
      refine tT ?_; refine callW 91 (hroom bb) rfl rfl rfl rfl ?_; rintro v2 z2 A2 hz2 ⟨rfl, rfl, rfl⟩; (try simp only [seval, go_sem])
      simp only [seval, go_sem, d15]
      (refine vsI.tf (Tf.open' 91 [92, 10, 11, 22, 23, 32, 33, 40, 41, 50, 51] rfl rfl rfl) ?_); simp only [seval, go_sem, zipL]
      (refine vsI.take' [0] 92 0 2001 rfl rfl rfl ?_); simp only [seval, go_sem, takeSt', unAt, unV, vals]; refine gO ?_
      (with_reducible refine joinV.id ?_; simp only [seval, go_sem])
      repeat' (first | (refine And.intro ?_ ?_ <;> (try simp only [seval, go_sem])) | (refine ldF.one _ (RdS.cell 11 rfl rfl) ?_; refine gO ?_))
      all_goals refine tT ?_; refine callO 95 (cloneByO data _ z hv (by omega)) rfl rfl rfl ?_; rintro v3 z3 A3 hz3 ⟨A5, rfl, rfl⟩; refine gO ?_
      repeat' (first | (refine And.intro ?_ ?_ <;> (try simp only [seval, go_sem])) | (refine ldF.one _ (RdS.cell 11 rfl rfl) ?_; refine gO ?_))
      all_goals refine aT ?_; (refine appM_newF 50 atyMs rfl rfl rfl rfl rfl rfl rfl (by simp [Value.oneCell']) (by omega) (fun A6 c6 hc6 hat6 => ?_)); refine gO ?_
      all_goals refine stoV_row 11 rfl rfl rfl rfl rfl rfl rfl (by simp) ?_
      all_goals simp only [seval, go_sem, putV]
      all_goals refine gO ?_
      all_goals (refine FinV.pk 96 [51, 95] ?_); dsimp only
      all_goals refine FinV.tf (Tf.own 96 rfl rfl (fun w F h => starL_push h)) ?_
      all_goals dsimp only
      all_goals (refine FinV.give 1000 0 2005 2000 rfl rfl rfl ?_); simp only [seval, go_sem, giveSt, subV, subC, subE, subL]
      all_goals (refine FinV.pk 999 [1000, 10, 11, 22, 23, 32, 33, 40, 41, 50, 96] ?_); dsimp only
      all_goals refine fP ?_
      all_goals have hR := hR.mono hz3
      all_goals refine ⟨e0, e1, n0, n1 ++ [⟨false, data⟩], { m with n1 := ⟨A6, c6, m.n1.ms ++ [(A5, data.length)]⟩ }, link, rfl, ?_, ⟨hR.e0, hR.e1, hR.n0, hR.n1.snoc hc6 (Nat.le_refl _) hBv⟩⟩
      all_goals simp only [wldP, wldL, netV_snoc _ _ _ _ _ hlen, netB_snoc _ _ _ _ _ hlen, List.length_append, List.length_singleton]
      all_goals rfl
    · have d15 : decide ((data.length : Int) ≤ 15) = false := decide_eq_false (by omega)
      rw [if_neg (fun h => h15 h.2)]
      (refine spec_enterP [10, 11, 22, 23, 32, 33, 40, 41, 50, 51] Tryz.func45 ic45_ok fr45_ok Tryz.ntmps45 rfl ?_; simp only [seval, go_sem, ic45, fr45, zipL, vals])
      refine vsI.atR 11 rfl fun hN => ?_
      have hN := hN (by omega)
      refine gO ?_
      refine tT ?_; refine callP (in_i 1 0 1 z) rfl rfl ?_; rintro _ _ - ⟨rfl, rfl⟩; refine gO ?_
      simp only [seval, go_sem, show inB 0 0 1 = true from rfl, show inB 1 0 1 = true from rfl]
      refine gO ?_
      ((first | refine ⟨⟨by omega, hN⟩, ?_⟩ | refine ⟨hN, ?_⟩); (try simp only [seval, go_sem]))
      refine gO ?_
      (refine ldF.one _ (RdS.cell 11 rfl rfl) ?_; refine gO ?_)
      (refine callT.give 90 0 2001 rfl rfl (fun bb => ?_)); simp only [seval, go_sem, giveSt, subV, subC, subE, subL]
      refine wD ?_
      refine tT ?_; refine callW 91 (hroom bb) rfl rfl rfl rfl ?_; rintro v2 z2 A2 hz2 ⟨rfl, rfl, rfl⟩; (try simp only [seval, go_sem])
      simp only [seval, go_sem, d15]
      (refine vsI.tf (Tf.open' 91 [92, 10, 11, 22, 23, 32, 33, 40, 41, 50, 51] rfl rfl rfl) ?_); simp only [seval, go_sem, zipL]
      (refine vsI.take' [0] 92 0 2001 rfl rfl rfl ?_); simp only [seval, go_sem, takeSt', unAt, unV, vals]; refine gO ?_
      refine wF5 ?_
      exact WldQ.mk hR
  · have hroom := fun bb => room1 bb c link e0 e1 n0 n1 m z (by omega)
    simp only [decide_eq_false h3] at hroom
    rw [if_neg (fun h => h3 h.1)]
    (refine spec_enterP [10, 11, 22, 23, 32, 33, 40, 41, 50, 51] Tryz.func45 ic45_ok fr45_ok Tryz.ntmps45 rfl ?_; simp only [seval, go_sem, ic45, fr45, zipL, vals])
    refine vsI.atR 11 rfl fun hN => ?_
    have hN := hN (by omega)
    refine gO ?_
    refine tT ?_; refine callP (in_i 1 0 1 z) rfl rfl ?_; rintro _ _ - ⟨rfl, rfl⟩; refine gO ?_
    simp only [seval, go_sem, show inB 0 0 1 = true from rfl, show inB 1 0 1 = true from rfl]
    refine gO ?_
    ((first | refine ⟨⟨by omega, hN⟩, ?_⟩ | refine ⟨hN, ?_⟩); (try simp only [seval, go_sem]))
    refine gO ?_
    (refine ldF.one _ (RdS.cell 11 rfl rfl) ?_; refine gO ?_)
    (refine callT.give 90 0 2001 rfl rfl (fun bb => ?_)); simp only [seval, go_sem, giveSt, subV, subC, subE, subL]
    refine wD ?_
    refine tT ?_; refine callW 91 (hroom bb) rfl rfl rfl rfl ?_; rintro v2 z2 A2 hz2 ⟨rfl, rfl, rfl⟩; (try simp only [seval, go_sem])
    (refine vsI.tf (Tf.open' 91 [92, 10, 11, 22, 23, 32, 33, 40, 41, 50, 51] rfl rfl rfl) ?_); simp only [seval, go_sem, zipL]
    (refine vsI.take' [0] 92 0 2001 rfl rfl rfl ?_); simp only [seval, go_sem, takeSt', unAt, unV, vals]; refine gO ?_
    refine wF5 ?_
    exact WldQ.mk hR
set_option maxHeartbeats 4000000
def QD (w : Wld) (ev : Evt) : Prop := StepOk w ev ∧ w.cfg.mode = 2 ∧ ev.who = 1 ∧ (ev.kind ≤ 7 ∨ ev.kind = 11)
theorem stepP_D : StepP QD := fun b c link e0 e1 n0 n1 m ev v z hv hR hW hQ => by
  rcases hQ.2.2.2 with h | h
  · exact step_qC1 b c link e0 e1 n0 n1 m ev v z hv hR hW hQ.1 hQ.2.1 h hQ.2.2.1
  · have hN : NetI n1 := hW.net 1 (by omega)
    have hw := hQ.2.2.1
    have e0' : ev.who.toNat = 1 := by omega
    have := step_i1 b c link e0 e1 n0 n1 m ev v z hv hQ.1.2.2.1 hR hN.1 hw h
    unfold step
    rw [if_neg (by omega)]
    simp only [e0']
    rw [if_neg (by omega), if_neg (by omega), if_neg (by omega), if_neg (by omega), if_pos h]
    exact this
theorem wldok1 (x : Msg) (v : Value) (z : Zc) (hb : By z x.bytes v) (hl : x.bytes.length ≤ 1000000000) : PSpec Tryz.prog 34 ([vMsg x v] ++ []) z fun u z' => u = .bool (!decide (x.bytes.length ≤ 15)) ∧ z = z' := by
  obtain ⟨A, k, rfl, hk, hB, hrb⟩ := hb.form
  (refine pspec_enter Tryz.func34 ic34_ok fr34_ok Tryz.ntmps34 ?_; simp only [seval, go_sem, ic34, fr34])
  (try simp only [seval, go_sem]); repeat' (first | (with_reducible refine vsI.id ?_; (try simp only [seval, go_sem])) | (with_reducible refine vcI_cond ?_; (try simp only [seval, go_sem])) | (with_reducible refine guardR.split (fun hg => ?_) (fun hg => ?_) <;> (try simp only [hg]) <;> simp only [seval, go_sem]) | (with_reducible refine condI.split (fun hg => ?_) (fun hg => ?_) <;> (try simp only [hg]) <;> (try simp only [seval, go_sem])) | (with_reducible refine callM.toT ?_))
  (first|refine fN ?_|exact fZ)
  simp [← decide_not]; omega
theorem netAny {l : List Msg} (h : NetI l) : (l.any fun x => !decide (x.bytes.length ≤ 15)) = false := by
  rw [List.any_eq_false]
  intro x hx
  simp [h.2 x hx]
theorem wldok_i (c : Cfg) (link : Int) (e0 e1 : End) (n0 n1 : List Msg) (m : WM) (z : Zc) (hP : WldP z e0 e1 n0 n1 m) (hW : WldI ⟨c, [e0, e1], [n0, n1], link⟩) :
    PSpec Tryz.prog 14 [wldV c link m] z fun u z' => u = .bool true := by
  have hI0 : EndI c e0 := hW.ends 0 (by omega)
  have hI1 : EndI c e1 := hW.ends 1 (by omega)
  have hN0 : NetI n0 := hW.net 0 (by omega)
  have hN1 : NetI n1 := hW.net 1 (by omega)
  have hE : IsAt m.E := hP.E.isAt (by rw [endsC_len]; omega)
  have hN : IsAt m.N := hP.N.isAt (by simp)
  (refine pspec_enter Tryz.func14 ic14_ok fr14_ok Tryz.ntmps14 ?_; simp only [seval, go_sem, ic14, fr14])
  refine gO ?_
  refine tT ?_; refine callP (cfgok_i c z) rfl rfl ?_; rintro _ _ - ⟨rfl, rfl⟩; refine gO ?_
  simp only [cfgOk_iff.2 (show CfgI c from hW.cfg)]
  refine gO ?_
  refine tT ?_; refine callP (in_i link 0 1 z) rfl rfl ?_; rintro _ _ - ⟨rfl, rfl⟩; refine gO ?_
  simp only [inB_iff.2 (show 0 ≤ link ∧ link ≤ 1 from hW.link)]
  refine gO ?_
  refine loopV.rounds 3 ?_
  rw [roundsV_succ]
  try simp only [show IntKind.i64.wrap 0 = 0 from rfl]
  refine gO ?_
  try simp only [seval, go_sem, show decide ((0 : Int) < ((2 : Nat) : Int)) = true from rfl]
  refine gO ?_
  ((first | refine ⟨⟨by omega, hE⟩, ?_⟩ | refine ⟨hE, ?_⟩); (try simp only [seval, go_sem]))
  refine ldF.agg (sz := 28) _ rfl (by exact .inl (hP.E.sub 0 _ (fun i u hu => ends_get0 hu))) ?_
  simp only [seval, go_sem, endC]
  refine gO ?_
  refine tT ?_; refine callP (txok_i c e0.tx _ _ z hI0.tx hP.e0.fl hP.e0.qu) rfl rfl ?_; rintro u y1 hy1 rfl; refine gO ?_
  have hy1P := hP.mono hy1
  refine tT ?_; refine callP (rxok_i e0.rx _ y1 hI0.rx hy1P.e0.jo) rfl rfl ?_; rintro _ _ - ⟨rfl, rfl⟩; refine gO ?_
  refine tT ?_; refine callP (ctxok_i c e0.ctx _ y1 hy1P.e0.cq (by have := hI0.ctx.queue; omega) (fun p hp => by have := hI0.ctx.qu p hp; have := hI0.ctx.cfg.mps; omega)) rfl rfl ?_; rintro u y2 hy2 rfl; refine gO ?_
  simp only [ctxOk_iff.2 hI0.ctx]
  refine gO ?_
  have hQ := hy1P.mono hy2
  refine tT ?_; refine callP (crxok_i e0.crx m.m0.kA m.m0.kC y2 (by have := hI0.crx.2.le; omega) (by have := hI0.crx.2; rcases this with h | h <;> omega)) rfl rfl ?_; rintro _ _ - ⟨rfl, rfl⟩; refine gO ?_
  simp only [crxOk_iff.2 hI0.crx]
  refine gO ?_
  refine tT ?_; refine callP (sdusok_i e0.put _ y2 hQ.e0.pu (by have := hI0.put.1; omega) (fun p hp => by have := hI0.put.2 p hp; omega)) rfl rfl ?_; rintro _ _ - ⟨rfl, rfl⟩; refine gO ?_
  simp only [sdusOk_iff.2 hI0.put]
  refine gO ?_
  refine tT ?_; refine callP (sdusok_i e0.got _ y2 hQ.e0.go (by have := hI0.got.1; omega) (fun p hp => by have := hI0.got.2 p hp; omega)) rfl rfl ?_; rintro _ _ - ⟨rfl, rfl⟩; refine gO ?_
  simp only [sdusOk_iff.2 hI0.got]
  refine gO ?_
  ((first | refine ⟨⟨by omega, hN⟩, ?_⟩ | refine ⟨hN, ?_⟩); (try simp only [seval, go_sem]))
  (refine ldF.one _ (by first | exact .inl (hQ.N.cell 0 rfl) | exact (hQ.N.cell 0 rfl)) ?_; (try simp only [seval, go_sem]))
  have d0 : decide ((n0.length : Int) > 30) = false := decide_eq_false (by have := hN0.1; omega)
  try simp only [seval, go_sem, d0]
  refine gO ?_
  ((first | refine ⟨⟨by omega, hN⟩, ?_⟩ | refine ⟨hN, ?_⟩); (try simp only [seval, go_sem]))
  (refine ldF.one _ (by first | exact .inl (hQ.N.cell 0 rfl) | exact (hQ.N.cell 0 rfl)) ?_; (try simp only [seval, go_sem]))
  obtain ⟨cs0, he0, hr0⟩ := Els.one1 hQ.n0
  refine tT ?_; refine callP (containsM (p := fun x => !decide (x.bytes.length ≤ 15)) (caps := []) he0 hr0 (by have := hN0.1; omega) (by kernel_rfl) (fun x hx v hv => wldok1 x v y2 hv (by have := hN0.2 x hx; omega))) rfl rfl ?_; rintro _ _ - ⟨rfl, rfl⟩; refine gO ?_
  try simp only [netAny hN0]
  refine gO ?_
  simp only [seval, go_sem, roundK_normal]
  rw [roundsV_succ]
  try simp only [show IntKind.i64.wrap 1 = 1 from rfl]
  refine gO ?_
  try simp only [seval, go_sem, show decide ((1 : Int) < ((2 : Nat) : Int)) = true from rfl]
  refine gO ?_
  ((first | refine ⟨⟨by omega, hE⟩, ?_⟩ | refine ⟨hE, ?_⟩); (try simp only [seval, go_sem]))
  refine ldF.agg (sz := 28) _ rfl (by exact .inl (hQ.E.sub 28 _ (fun i u hu => ends_get1 hu))) ?_
  simp only [seval, go_sem, endC]
  refine gO ?_
  refine tT ?_; refine callP (txok_i c e1.tx _ _ y2 hI1.tx hQ.e1.fl hQ.e1.qu) rfl rfl ?_; rintro u x1 hx1 rfl; refine gO ?_
  have hx1P := hQ.mono hx1
  refine tT ?_; refine callP (rxok_i e1.rx _ x1 hI1.rx hx1P.e1.jo) rfl rfl ?_; rintro _ _ - ⟨rfl, rfl⟩; refine gO ?_
  refine tT ?_; refine callP (ctxok_i c e1.ctx _ x1 hx1P.e1.cq (by have := hI1.ctx.queue; omega) (fun p hp => by have := hI1.ctx.qu p hp; have := hI1.ctx.cfg.mps; omega)) rfl rfl ?_; rintro u x2 hx2 rfl; refine gO ?_
  simp only [ctxOk_iff.2 hI1.ctx]
  refine gO ?_
  have hQ := hx1P.mono hx2
  refine tT ?_; refine callP (crxok_i e1.crx m.m1.kA m.m1.kC x2 (by have := hI1.crx.2.le; omega) (by have := hI1.crx.2; rcases this with h | h <;> omega)) rfl rfl ?_; rintro _ _ - ⟨rfl, rfl⟩; refine gO ?_
  simp only [crxOk_iff.2 hI1.crx]
  refine gO ?_
  refine tT ?_; refine callP (sdusok_i e1.put _ x2 hQ.e1.pu (by have := hI1.put.1; omega) (fun p hp => by have := hI1.put.2 p hp; omega)) rfl rfl ?_; rintro _ _ - ⟨rfl, rfl⟩; refine gO ?_
  simp only [sdusOk_iff.2 hI1.put]
  refine gO ?_
  refine tT ?_; refine callP (sdusok_i e1.got _ x2 hQ.e1.go (by have := hI1.got.1; omega) (fun p hp => by have := hI1.got.2 p hp; omega)) rfl rfl ?_; rintro _ _ - ⟨rfl, rfl⟩; refine gO ?_
  simp only [sdusOk_iff.2 hI1.got]
  refine gO ?_
  ((first | refine ⟨⟨by omega, hN⟩, ?_⟩ | refine ⟨hN, ?_⟩); (try simp only [seval, go_sem]))
  (refine ldF.one _ (by first | exact .inl (hQ.N.cell 1 rfl) | exact (hQ.N.cell 1 rfl)) ?_; (try simp only [seval, go_sem]))
  have d1 : decide ((n1.length : Int) > 30) = false := decide_eq_false (by have := hN1.1; omega)
  try simp only [seval, go_sem, d1]
  refine gO ?_
  ((first | refine ⟨⟨by omega, hN⟩, ?_⟩ | refine ⟨hN, ?_⟩); (try simp only [seval, go_sem]))
  (refine ldF.one _ (by first | exact .inl (hQ.N.cell 1 rfl) | exact (hQ.N.cell 1 rfl)) ?_; (try simp only [seval, go_sem]))
  obtain ⟨cs1, he1, hr1⟩ := Els.one1 hQ.n1
  refine tT ?_; refine callP (containsM (p := fun x => !decide (x.bytes.length ≤ 15)) (caps := []) he1 hr1 (by have := hN1.1; omega) (by kernel_rfl) (fun x hx v hv => wldok1 x v x2 hv (by have := hN1.2 x hx; omega))) rfl rfl ?_; rintro _ _ - ⟨rfl, rfl⟩; refine gO ?_
  try simp only [netAny hN1]
  refine gO ?_
  simp only [seval, go_sem, roundK_normal]
  rw [roundsV_succ]
  try simp only [show IntKind.i64.wrap 2 = 2 from rfl]
  refine gO ?_
  try simp only [seval, go_sem, show decide ((2 : Int) < ((2 : Nat) : Int)) = false from rfl]
  refine gO ?_
  simp only [seval, go_sem, roundK_exit]
  (first|refine fN ?_|exact fZ)
end Go.Proofs.YtpblmlaahapohaaGreat
