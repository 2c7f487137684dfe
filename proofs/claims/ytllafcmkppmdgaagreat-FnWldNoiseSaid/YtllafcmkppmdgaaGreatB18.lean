/- One hears the first frame on its way to it, by the program. · One hears a frame, by numbers, by the program. · What happens to two ends, by the program: what is shared. · What happens to two ends, by the program: one hears; nothing is there. · What happens to two ends, by the program: a frame is lost, or bent; they move. -/
import Derived.Test.YtllafcmkppmdgaaGreatB17
import Derived.Test.YtllafcmkppmdgaaGreatB16
import Derived.Test.YtllafcmkppmdgaaGreatB12
import Derived.Test.YtllafcmkppmdgaaGreatB6
import Derived.Test.YtllafcmkppmdgaaGreatB4
namespace Go.Proofs.YtllafcmkppmdgaaGreat
open Go.RowKit
set_option linter.unusedVariables false
set_option linter.unusedSimpArgs false
set_option maxRecDepth 100000
set_option maxHeartbeats 4000000
theorem opT.frzA {P : Program} {o : Oper} {s : St} {K : St → Prop} (k : Nat) {A : Asrt} {G : Zc → Prop} (hk : look k s.L = some (.own A)) (hA : RdA A G) (h : ∀ z', s.z ≤ z' → G z' → opT P o ⟨s.t, del k s.L, z', s.n⟩ K) : opT P o s K := fun C ρ a w Q hs => by
 obtain ⟨z', h1, h2, h3⟩ := hs.frzA hk hA
 refine Oper.wp_mono ?_ (h z' h1 h2 C ρ a w Q h3)
 rintro a' w' ⟨s', ρ', k1, k2, k3, k4⟩
 exact ⟨s', ρ', k1, k2, k3, Zc.trans' h1 k4⟩
theorem callT.frzA {P : Program} {f : FuncId} {args : List Operand} {d : Option Nat} {s : St} {K : St → Prop} (k : Nat) {A : Asrt} {G : Zc → Prop} (hk : look k s.L = some (.own A)) (hA : RdA A G) (h : ∀ z', s.z ≤ z' → G z' → callT P f args d ⟨s.t, del k s.L, z', s.n⟩ K) : callT P f args d s K := fun o h1 h2 => opT.frzA k hk hA fun z' g1 g2 => h z' g1 g2 o h1 h2
theorem FinV.frzA {fr : List FR} {s : St} {R : Value → Zc → Asrt → Prop} (k : Nat) {A : Asrt} {G : Zc → Prop} (hk : look k s.L = some (.own A)) (hA : RdA A G) (h : ∀ z', s.z ≤ z' → G z' → FinV fr ⟨s.t, del k s.L, z', s.n⟩ R) : FinV fr s R := fun C ρ a w hs => by
 obtain ⟨z', h1, h2, h3⟩ := hs.frzA hk hA
 exact h z' h1 h2 C ρ a w h3
theorem hear_no0 (b : Nat) (c : Cfg) (link : Int) (e0 e1 : End) (n0 n1 : List Msg) (msg : Msg) (rest : List Msg) (m : WM) (z : Zc) (hR : WldB z e0 e1 n0 n1 m) (h15 : msg.bytes.length ≤ 1000) (h30 : n0.length ≤ 1000) (hn : n0 = msg :: rest) (hE : IsAt m.E) (hN : IsAt m.N) (hA : IsAt m.n0.A) (hf : frmRead msg.bytes = none) :
  Spec Tryz.prog 105 [.pointer (some ⟨b, 0, none⟩), .int .i64 0] z (wldP b c link e0 e1 n0 n1 m) fun _ z' A' => WldQ c (setNet ⟨c, [e0, e1], [n0, n1], link⟩ 0 rest) b z' A' := by
 subst hn
 obtain ⟨E, EC, N, NC, m0, m1, ⟨A0, C0, ms0⟩, ⟨A1, C1, ms1⟩⟩ := m
 have hok := hR.n0.ok
 have hcap := hR.n0.cap
 dsimp only at hok hcap hE hN hA
 cases ms0 with
 | nil => exact hok.elim
 | cons x ms =>
 obtain ⟨a, cb⟩ := x
 obtain ⟨⟨hb1, hb2⟩, hok⟩ := hok
 have hvl := netV_len hok
 have hlr : (msg :: rest).length = rest.length + 1 := rfl
 have hnv : List.take (rest.length * 2) (List.drop 2 (netV (msg :: rest) ((a, cb) :: ms))) = netV rest ms := List.take_of_length_le (by show (netV rest ms).length ≤ _; omega)
 refine eQ kyI k105 ?_
 ((first | refine ⟨⟨by omega, hN⟩, ?_⟩ | refine ⟨hN, ?_⟩); (try simp only [seval, go_sem]))
 (refine ldF.one _ (RdS.cell 11 rfl rfl) ?_; refine gO ?_)
 refine ⟨⟨by simp, hA⟩, ?_⟩
 refine gO ?_
 (refine ldF.one _ (RdS.cell 40 rfl rfl) ?_; refine gO ?_)
 refine callT.tf (Tf.split 41 46 rfl rfl rfl) ?_
 dsimp only
 refine callT.frzA 46 rfl (RdA.bys hb1 hb2) (fun z4 hz4 hby => ?_)
 dsimp only at hz4
 simp only [seval, go_sem]
 have hc := frmRead_i msg.bytes _ z4 hby (by omega)
 simp only [hf] at hc
 refine tT ?_; refine callP (hc) rfl rfl ?_; rintro u z5 hz5 rfl; refine gO ?_
 ((first | refine ⟨⟨by omega, hN⟩, ?_⟩ | refine ⟨hN, ?_⟩); (try simp only [seval, go_sem]))
 (refine ldF.one _ (RdS.cell 11 rfl rfl) ?_; refine gO ?_)
 refine ⟨by omega, ?_⟩; refine gO ?_
 ((first | refine ⟨⟨by omega, hN⟩, ?_⟩ | refine ⟨hN, ?_⟩); (try simp only [seval, go_sem]))
 (refine stoV_row 11 rfl rfl rfl rfl rfl rfl rfl (by simp) ?_; simp only [seval, go_sem, putV]; refine gO ?_)
 refine gO ?_
 refine FinV.tf (Tf.cut 40 rfl rfl 1 (rest.length + 1) C0 (by omega) (by simp) hcap (by omega) (.inr (.inr hA))) ?_
 simp only [Nat.one_mul, Nat.add_sub_cancel, hnv]
 refine wF1 ?_
 exact ⟨e0, e1, rest, n1, ⟨E, EC, N, NC, m0, m1, ⟨cutA A0 C0 1 2, C0 - 1, ms⟩, ⟨A1, C1, ms1⟩⟩, link, rfl, rfl, ⟨hR.e0.mono (Zc.trans' hz4 hz5), hR.e1.mono (Zc.trans' hz4 hz5), ⟨hok, by show rest.length ≤ C0 - 1; rw [hlr] at hcap; omega⟩, hR.n1⟩⟩
theorem hear_no1 (b : Nat) (c : Cfg) (link : Int) (e0 e1 : End) (n0 n1 : List Msg) (msg : Msg) (rest : List Msg) (m : WM) (z : Zc) (hR : WldB z e0 e1 n0 n1 m) (h15 : msg.bytes.length ≤ 1000) (h30 : n1.length ≤ 1000) (hn : n1 = msg :: rest) (hE : IsAt m.E) (hN : IsAt m.N) (hA : IsAt m.n1.A) (hf : frmRead msg.bytes = none) :
  Spec Tryz.prog 105 [.pointer (some ⟨b, 0, none⟩), .int .i64 1] z (wldP b c link e0 e1 n0 n1 m) fun _ z' A' => WldQ c (setNet ⟨c, [e0, e1], [n0, n1], link⟩ 1 rest) b z' A' := by
 subst hn
 obtain ⟨E, EC, N, NC, m0, m1, ⟨A0, C0, ms0⟩, ⟨A1, C1, ms1⟩⟩ := m
 have hok := hR.n1.ok
 have hcap := hR.n1.cap
 dsimp only at hok hcap hE hN hA
 cases ms1 with
 | nil => exact hok.elim
 | cons x ms =>
 obtain ⟨a, cb⟩ := x
 obtain ⟨⟨hb1, hb2⟩, hok⟩ := hok
 have hvl := netV_len hok
 have hlr : (msg :: rest).length = rest.length + 1 := rfl
 have hnv : List.take (rest.length * 2) (List.drop 2 (netV (msg :: rest) ((a, cb) :: ms))) = netV rest ms := List.take_of_length_le (by show (netV rest ms).length ≤ _; omega)
 refine eQ kyI k105 ?_
 ((first | refine ⟨⟨by omega, hN⟩, ?_⟩ | refine ⟨hN, ?_⟩); (try simp only [seval, go_sem]))
 (refine ldF.one _ (RdS.cell 11 rfl rfl) ?_; refine gO ?_)
 refine ⟨⟨by simp, hA⟩, ?_⟩
 refine gO ?_
 (refine ldF.one _ (RdS.cell 50 rfl rfl) ?_; refine gO ?_)
 refine callT.tf (Tf.split 51 46 rfl rfl rfl) ?_
 dsimp only
 refine callT.frzA 46 rfl (RdA.bys hb1 hb2) (fun z4 hz4 hby => ?_)
 dsimp only at hz4
 simp only [seval, go_sem]
 have hc := frmRead_i msg.bytes _ z4 hby (by omega)
 simp only [hf] at hc
 refine tT ?_; refine callP (hc) rfl rfl ?_; rintro u z5 hz5 rfl; refine gO ?_
 ((first | refine ⟨⟨by omega, hN⟩, ?_⟩ | refine ⟨hN, ?_⟩); (try simp only [seval, go_sem]))
 (refine ldF.one _ (RdS.cell 11 rfl rfl) ?_; refine gO ?_)
 refine ⟨by omega, ?_⟩; refine gO ?_
 ((first | refine ⟨⟨by omega, hN⟩, ?_⟩ | refine ⟨hN, ?_⟩); (try simp only [seval, go_sem]))
 (refine stoV_row 11 rfl rfl rfl rfl rfl rfl rfl (by simp) ?_; simp only [seval, go_sem, putV]; refine gO ?_)
 refine gO ?_
 refine FinV.tf (Tf.cut 50 rfl rfl 1 (rest.length + 1) C1 (by omega) (by simp) hcap (by omega) (.inr (.inr hA))) ?_
 simp only [Nat.one_mul, Nat.add_sub_cancel, hnv]
 refine wF1 ?_
 exact ⟨e0, e1, n0, rest, ⟨E, EC, N, NC, m0, m1, ⟨A0, C0, ms0⟩, ⟨cutA A1 C1 1 2, C1 - 1, ms⟩⟩, link, rfl, rfl, ⟨hR.e0.mono (Zc.trans' hz4 hz5), hR.e1.mono (Zc.trans' hz4 hz5), hR.n0, ⟨hok, by show rest.length ≤ C1 - 1; rw [hlr] at hcap; omega⟩⟩⟩
theorem ends_gotV0 (e0 e1 : End) (m0 m1 : EndM) (l : List (List Int)) (n c : Nat) (A : Option Addr) (V : List Value) (h : n = l.length) : putV (endsC e0 e1 m0 m1) 27 [.slice A n c] = endsC { e0 with got := l } e1 { m0 with gA := A, gC := c, gV := V } m1 := by subst h; rfl
theorem ends_gotV1 (e0 e1 : End) (m0 m1 : EndM) (l : List (List Int)) (n c : Nat) (A : Option Addr) (V : List Value) (h : n = l.length) : putV (endsC e0 e1 m0 m1) 55 [.slice A n c] = endsC e0 { e1 with got := l } m0 { m1 with gA := A, gC := c, gV := V } := by subst h; rfl
theorem hear_n1_0 (b : Nat) (c : Cfg) (link : Int) (e0 e1 : End) (n0 n1 : List Msg) (msg : Msg) (rest : List Msg) (f : Frm) (m : WM) (z : Zc) (hR : WldB z e0 e1 n0 n1 m) (hI : EndI c e0) (hm : c.mode = 1) (h0 : n0.length ≤ 30) (h1 : n1.length ≤ 30) (h15 : msg.bytes.length ≤ 15) (hn : n0 = msg :: rest) (hf : frmRead msg.bytes = some f) (hok : frmOk f = true) (hkk : f.kind = 1) (hE : IsAt m.E) (hN : IsAt m.N) (hA : IsAt m.n0.A) :
  Spec Tryz.prog 105 [.pointer (some ⟨b, 0, none⟩), .int .i64 0] z (wldP b c link e0 e1 n0 n1 m) fun _ z' A' => WldQ c (says ⟨c, [e0, e1].set 0 (hearN1 c e0 f), [n0, n1].set 0 rest, link⟩ 0 (rxHear c e0.rx f).2.2) b z' A' := by
 subst hn
 obtain ⟨E, EC, N, NC, m0, m1, ⟨A0, C0, ms0⟩, ⟨A1, C1, ms1⟩⟩ := m
 obtain ⟨hR0, hR1, hRn0, hRn1⟩ := hR
 have hno := hRn0.ok
 have hcap := hRn0.cap
 dsimp only at hno hcap hR0 hR1 hRn0 hRn1 hE hN hA
 cases ms0 with
 | nil => exact hno.elim
 | cons x ms =>
 obtain ⟨a, cb⟩ := x
 obtain ⟨⟨hb1, hb2⟩, hno⟩ := hno
 have hvl := netV_len hno
 have hlr : (msg :: rest).length = rest.length + 1 := rfl
 have hnv : List.take (rest.length * 2) (List.drop 2 (netV (msg :: rest) ((a, cb) :: ms))) = netV rest ms := List.take_of_length_le (by show (netV rest ms).length ≤ _; omega)
 have hcap1 : rest.length ≤ C0 - 1 := by rw [hlr] at hcap; omega
 obtain ⟨kind, seq, ack, poll, fin, say, seg, len, data⟩ := f
 dsimp only at hkk
 subst hkk
 obtain ⟨mode, win, mps, mtu, tri⟩ := c
 dsimp only at hm
 subst hm
 refine eQ kyI k105 ?_
 ((first | refine ⟨⟨by omega, hN⟩, ?_⟩ | refine ⟨hN, ?_⟩); (try simp only [seval, go_sem]))
 (refine ldF.one _ (RdS.cell 11 rfl rfl) ?_; refine gO ?_)
 refine ⟨⟨by simp, hA⟩, ?_⟩
 refine gO ?_
 (refine ldF.one _ (RdS.cell 40 rfl rfl) ?_; refine gO ?_)
 refine callT.tf (Tf.split 41 46 rfl rfl rfl) ?_
 dsimp only
 refine callT.frzA 46 rfl (RdA.bys hb1 hb2) (fun z4 hz4 hby => ?_)
 dsimp only at hz4
 simp only [seval, go_sem]
 have hc := frmRead_i msg.bytes _ z4 hby (by omega)
 simp only [hf] at hc
 refine tT ?_; refine callP (hc) rfl rfl ?_; rintro u z5 hz5 ⟨x, rfl, hx⟩; (try simp only [seval, go_sem])
 obtain ⟨Ax, kx, rfl, hkx, hBx, hrx⟩ := hx.form
 try dsimp only at hx
 refine gO ?_
 ((first | refine ⟨⟨by omega, hN⟩, ?_⟩ | refine ⟨hN, ?_⟩); (try simp only [seval, go_sem]))
 (refine ldF.one _ (RdS.cell 11 rfl rfl) ?_; refine gO ?_)
 refine ⟨by omega, ?_⟩; refine gO ?_
 ((first | refine ⟨⟨by omega, hN⟩, ?_⟩ | refine ⟨hN, ?_⟩); (try simp only [seval, go_sem]))
 (refine stoV_row 11 rfl rfl rfl rfl rfl rfl rfl (by simp) ?_; simp only [seval, go_sem, putV]; refine gO ?_)
 ((first | refine ⟨⟨by omega, hE⟩, ?_⟩ | refine ⟨hE, ?_⟩); (try simp only [seval, go_sem]))
 refine gO ?_
 have hz05 := Zc.trans' hz4 hz5
 refine ldF.agg (sz := 10) (txL e0 m0) rfl (RdS.part 10 rfl (fun i u hu => ends_sub (l1 := (endsC e0 e1 m0 m1).take 0) (l3 := (endsC e0 e1 m0 m1).drop 10) rfl rfl hu)) ?_
 refine gO ?_
 have hc1 := txhear_i ⟨1, win, mps, mtu, tri⟩ e0.tx ⟨1, seq, ack, poll, fin, say, seg, len, data⟩ _ _ (.slice Ax data.length kx) z5 hI.tx (hR0.fl.mono hz05) (hR0.qu.mono hz05) hx hok (.inl rfl)
 unfold hearN1
 generalize txHear e0.tx ⟨1, seq, ack, poll, fin, say, seg, len, data⟩ = tp at hc1 ⊢
 obtain ⟨next, acked, fl, sent, qu, asks, tries, held, count, dead⟩ := tp
 dsimp only at hc1 ⊢
 refine tT ?_; refine callP (hc1) rfl rfl ?_; rintro u z6 hz6 ⟨fA, fC, qA, qC, rfl, hf1, hq1⟩; refine gO ?_
 (refine stoV_row 10 rfl rfl rfl rfl rfl rfl rfl (by rw [endsC_len]; simp) ?_; simp only [seval, go_sem, ends_tx0]; refine gO ?_)
 refine ldF.agg (sz := 7) (rxL e0 m0) rfl (RdS.part 10 rfl (fun i u hu => ends_sub (l1 := (endsC { e0 with tx := ⟨next, acked, fl, sent, qu, asks, tries, held, count, dead⟩ } e1 { m0 with fA := fA, fC := fC, qA := qA, qC := qC } m1).take 10) (l3 := (endsC { e0 with tx := ⟨next, acked, fl, sent, qu, asks, tries, held, count, dead⟩ } e1 { m0 with fA := fA, fC := fC, qA := qA, qC := qC } m1).drop 17) rfl rfl hu)) ?_
 refine gO ?_
 have hc2 := rxhear_i ⟨1, win, mps, mtu, tri⟩ e0.rx ⟨1, seq, ack, poll, fin, say, seg, len, data⟩ _ (.slice Ax data.length kx) z6 hI.tx.cfg (Sl.mono (Zc.trans' hz05 hz6) hR0.jo) (Sl.mono hz6 hx) hI.rx hok (.inl rfl)
 have hfr := @rxHear_frm ⟨1, win, mps, mtu, tri⟩ e0.rx ⟨1, seq, ack, poll, fin, say, seg, len, data⟩ hI.rx
 have hln := @rxHear_len ⟨1, win, mps, mtu, tri⟩ e0.rx ⟨1, seq, ack, poll, fin, say, seg, len, data⟩
 have hsl := (@rxHear_ok ⟨1, win, mps, mtu, tri⟩ e0.rx ⟨1, seq, ack, poll, fin, say, seg, len, data⟩ hI.rx hok (.inl rfl)).2.2
 generalize rxHear ⟨1, win, mps, mtu, tri⟩ e0.rx ⟨1, seq, ack, poll, fin, say, seg, len, data⟩ = tq at hc2 hfr hln hsl ⊢
 obtain ⟨⟨rexpect, rcount, ⟨rlen, rgot⟩, ragain, rbusy, rdead⟩, sdus, sys⟩ := tq
 dsimp only at hc2 hfr hln hsl ⊢
 refine tT ?_; refine callP (hc2) rfl rfl ?_; rintro u z7 hz7 ⟨A5, k5, B6, m6, k6, B7, m7, k7, rfl, h5, h6, h7⟩; refine gO ?_; (try simp only [seval, go_sem])
 dsimp only at h5 h6 h7
 obtain ⟨_, _, cs6, e6, hk6, he6, hr6⟩ := h6
 obtain ⟨_, _, cs7, e7, hk7, he7, hr7⟩ := h7
 injection e6 with e1 e2 e3
 subst e1; subst e2; subst e3
 injection e7 with e1 e2 e3
 subst e1; subst e2; subst e3
 refine gO ?_
 (refine stoV_row 10 rfl rfl rfl rfl rfl rfl rfl (by rw [endsC_len]; simp) ?_; simp only [seval, go_sem, ends_rx0]; refine gO ?_)
 have hz67 := Zc.trans' hz6 hz7
 have hzz := Zc.trans' hz05 hz67
 refine loopV.tf (Tf.cut 40 rfl rfl 1 (rest.length + 1) C0 (by omega) (by simp) hcap (by omega) (.inr (.inr hA))) ?_
 simp only [Nat.one_mul, Nat.add_sub_cancel, hnv]
 refine loop_upd (ι := TelS) (n := 2) (fun s => z7 ≤ s.z ∧ s.i ≤ sdus.length ∧ s.g = tell e0.got (sdus.take s.i) ∧ Els sduRep s.z s.g s.V ∧ s.g.length ≤ s.C ∧ s.g.length ≤ 60) (fun s => [(144, .c (.v (.int .i64 s.i)))])
  (fun s => wldK b ⟨1, win, mps, mtu, tri⟩ link { e0 with tx := ⟨next, acked, fl, sent, qu, asks, tries, held, count, dead⟩, rx := ⟨rexpect, rcount, ⟨rlen, rgot⟩, ragain, rbusy, rdead⟩, got := s.g } e1 rest n1 ⟨E, EC, N, NC, { m0 with fA := fA, fC := fC, qA := qA, qC := qC, jA := A5, jC := k5, gA := s.A, gC := s.C, gV := s.V }, m1, ⟨cutA A0 C0 1 2, C0 - 1, ms⟩, ⟨A1, C1, ms1⟩⟩ ++ [(1, .cells 65 [.v (.int .i64 1), .v (.int .i64 seq), .v (.int .i64 ack), .v (.bool poll), .v (.bool fin), .v (.int .i64 say), .v (.int .i64 seg), .v (.int .i64 len), .v (.slice Ax data.length kx)])]) (fun s => s.z) (fun s => sdus.length - s.i) ⟨0, e0.got, m0.gA, m0.gC, m0.gV, z7⟩ ⟨Zc.rfl' _, by simp, by simp [tell], hR0.go.mono hzz, hR0.gc, hI.got.1⟩ (by (simp only [wrI, wrR, anyL, st, List.append_nil, List.nil_append, List.cons_append]); exact rfl) ?_ ?_
 ·simp only [wldK, wldE, List.cons_append, List.nil_append]
  exact lX
 ·rintro ⟨i, g, gA, gC, gV, z8⟩ ⟨hz8, hi, hgl, hge, hgc, hg60⟩
  dsimp only at *
  simp only [wldK, wldE, List.cons_append, List.nil_append]
  refine gO ?_
  (with_reducible refine condI.split (fun hg => ?_) (fun hg => ?_) <;> (try simp only [hg]) <;> (try simp only [seval, go_sem]))
  ·have hi' : i < sdus.length := by simp at hg; omega
   obtain ⟨x, hx'⟩ : ∃ x, sdus[i]? = some x := ⟨_, List.getElem?_eq_getElem hi'⟩
   obtain ⟨c1, ⟨v, rfl, hb⟩, hr1⟩ := (he6.mono hz8).at (hr6.mono hz8) hx'
   obtain ⟨Ay, cy, rfl, hcy, hBy, hry⟩ := By.form hb
   have hat := he6.isAt hr6 (by decide) hi'
   refine gO ?_
   (refine ⟨⟨by omega, by omega, hat⟩, ?_⟩; (try simp only [seval, go_sem]))
   (refine ldF.one _ (by first | exact .inl hr1 | exact hr1) ?_; (try simp only [seval, go_sem]))
   refine gO ?_
   (refine ldF.one _ (RdS.cell 10 rfl rfl) ?_; refine gO ?_)
   (with_reducible refine condI.split (fun hg => ?_) (fun hg => ?_) <;> (try simp only [hg]) <;> (try simp only [seval, go_sem]))
   ·refine gO ?_
    (refine ldF.one _ (RdS.cell 10 rfl rfl) ?_; refine gO ?_)
    refine aT ?_; (refine appM_newF 23 atyS rfl rfl rfl rfl rfl rfl rfl (by simp [Value.oneCell']) (by omega) (fun A6 c6 hc6 hat6 => ?_)); refine gO ?_
    (refine stoV_row 10 rfl rfl rfl rfl rfl rfl rfl (by rw [endsC_len]; simp) ?_; refine gO ?_)
    rw [ends_gotV0 _ _ _ _ (g ++ [x]) _ _ _ (gV ++ [.slice Ay x.length cy]) (by simp), show g.length + 1 = (g ++ [x]).length by simp]
    refine ⟨⟨i + 1, g ++ [x], A6, c6, gV ++ [.slice Ay x.length cy], z8⟩, ⟨hz8, by dsimp only; omega, ?_, hge.append (Els.single (d := sduRep) ⟨_, rfl, By.mk hcy hBy hry⟩), by simp; exact hc6, by have := of_decide_eq_true hg; simp; omega⟩, by dsimp only; omega, ?_⟩
    ·dsimp only; rw [tell_take hx', ← hgl, if_pos (by have := of_decide_eq_true hg; omega)]
    ·exact lX
   ·refine gO ?_
    refine ⟨⟨i + 1, g, gA, gC, gV, z8⟩, ⟨hz8, by dsimp only; omega, by dsimp only; rw [tell_take hx', ← hgl, if_neg (by have := of_decide_eq_false hg; omega)], hge, hgc, hg60⟩, by dsimp only; omega, ?_⟩
    exact lX
  ·have hil : i = sdus.length := by simp at hg; omega
   subst hil
   rw [List.take_length] at hgl
   subst hgl
   refine gO ?_
   have hR8 : WldB z8 { e0 with tx := ⟨next, acked, fl, sent, qu, asks, tries, held, count, dead⟩, rx := ⟨rexpect, rcount, ⟨rlen, rgot⟩, ragain, rbusy, rdead⟩, got := (tell e0.got sdus) } e1 rest n1 ⟨E, EC, N, NC, { m0 with fA := fA, fC := fC, qA := qA, qC := qC, jA := A5, jC := k5, gA := gA, gC := gC, gV := gV }, m1, ⟨cutA A0 C0 1 2, C0 - 1, ms⟩, ⟨A1, C1, ms1⟩⟩ := ⟨{ (hR0.mono (Zc.trans' hzz hz8)) with fl := hf1.mono (Zc.trans' hz7 hz8), qu := hq1.mono (Zc.trans' hz7 hz8), jo := Sl.mono hz8 h5, go := hge, gc := hgc }, hR1.mono (Zc.trans' hzz hz8), ⟨hno, hcap1⟩, hRn1⟩
   (refine callT.give 93 0 2003 rfl rfl (fun b3 => ?_)); simp only [seval, go_sem, giveSt, subV, subC, subE, subL]
   refine wC ?_
   refine tT ?_; refine callW 94 (say_p0 b3 ⟨1, win, mps, mtu, tri⟩ link { e0 with tx := ⟨next, acked, fl, sent, qu, asks, tries, held, count, dead⟩, rx := ⟨rexpect, rcount, ⟨rlen, rgot⟩, ragain, rbusy, rdead⟩, got := (tell e0.got sdus) } e1 rest n1 ⟨E, EC, N, NC, { m0 with fA := fA, fC := fC, qA := qA, qC := qC, jA := A5, jC := k5, gA := gA, gC := gC, gV := gV }, m1, ⟨cutA A0 C0 1 2, C0 - 1, ms⟩, ⟨A1, C1, ms1⟩⟩ sys (.slice B7 sys.length k7) z8 hR8 (⟨B7, k7, cs7, rfl, hk7, he7.mono hz8, hr7.mono hz8⟩) (by omega) (hfr) (by simp at h0; omega) (by skip; omega)) rfl rfl rfl rfl ?_; rintro v3 z3 A3 hz3 ⟨f0, f1, g0, g1, m3, link3, hw3, rfl, hR9⟩; refine gO ?_
   refine wO ?_
   refine wF5 ?_
   exact ⟨f0, f1, g0, g1, m3, link3, hw3, rfl, hR9⟩
theorem hear_n2_0 (b : Nat) (c : Cfg) (link : Int) (e0 e1 : End) (n0 n1 : List Msg) (msg : Msg) (rest : List Msg) (f : Frm) (m : WM) (z : Zc) (hR : WldB z e0 e1 n0 n1 m) (hI : EndI c e0) (hm : c.mode = 1) (h0 : n0.length ≤ 30) (h1 : n1.length ≤ 30) (h15 : msg.bytes.length ≤ 15) (hn : n0 = msg :: rest) (hf : frmRead msg.bytes = some f) (hok : frmOk f = true) (hkk : f.kind = 2) (hE : IsAt m.E) (hN : IsAt m.N) (hA : IsAt m.n0.A) :
  Spec Tryz.prog 105 [.pointer (some ⟨b, 0, none⟩), .int .i64 0] z (wldP b c link e0 e1 n0 n1 m) fun _ z' A' => WldQ c (says ⟨c, [e0, e1].set 0 (hearN1 c e0 f), [n0, n1].set 0 rest, link⟩ 0 (rxHear c e0.rx f).2.2) b z' A' := by
 subst hn
 obtain ⟨E, EC, N, NC, m0, m1, ⟨A0, C0, ms0⟩, ⟨A1, C1, ms1⟩⟩ := m
 obtain ⟨hR0, hR1, hRn0, hRn1⟩ := hR
 have hno := hRn0.ok
 have hcap := hRn0.cap
 dsimp only at hno hcap hR0 hR1 hRn0 hRn1 hE hN hA
 cases ms0 with
 | nil => exact hno.elim
 | cons x ms =>
 obtain ⟨a, cb⟩ := x
 obtain ⟨⟨hb1, hb2⟩, hno⟩ := hno
 have hvl := netV_len hno
 have hlr : (msg :: rest).length = rest.length + 1 := rfl
 have hnv : List.take (rest.length * 2) (List.drop 2 (netV (msg :: rest) ((a, cb) :: ms))) = netV rest ms := List.take_of_length_le (by show (netV rest ms).length ≤ _; omega)
 have hcap1 : rest.length ≤ C0 - 1 := by rw [hlr] at hcap; omega
 obtain ⟨kind, seq, ack, poll, fin, say, seg, len, data⟩ := f
 dsimp only at hkk
 subst hkk
 obtain ⟨mode, win, mps, mtu, tri⟩ := c
 dsimp only at hm
 subst hm
 refine eQ kyI k105 ?_
 ((first | refine ⟨⟨by omega, hN⟩, ?_⟩ | refine ⟨hN, ?_⟩); (try simp only [seval, go_sem]))
 (refine ldF.one _ (RdS.cell 11 rfl rfl) ?_; refine gO ?_)
 refine ⟨⟨by simp, hA⟩, ?_⟩
 refine gO ?_
 (refine ldF.one _ (RdS.cell 40 rfl rfl) ?_; refine gO ?_)
 refine callT.tf (Tf.split 41 46 rfl rfl rfl) ?_
 dsimp only
 refine callT.frzA 46 rfl (RdA.bys hb1 hb2) (fun z4 hz4 hby => ?_)
 dsimp only at hz4
 simp only [seval, go_sem]
 have hc := frmRead_i msg.bytes _ z4 hby (by omega)
 simp only [hf] at hc
 refine tT ?_; refine callP (hc) rfl rfl ?_; rintro u z5 hz5 ⟨x, rfl, hx⟩; (try simp only [seval, go_sem])
 obtain ⟨Ax, kx, rfl, hkx, hBx, hrx⟩ := hx.form
 try dsimp only at hx
 refine gO ?_
 ((first | refine ⟨⟨by omega, hN⟩, ?_⟩ | refine ⟨hN, ?_⟩); (try simp only [seval, go_sem]))
 (refine ldF.one _ (RdS.cell 11 rfl rfl) ?_; refine gO ?_)
 refine ⟨by omega, ?_⟩; refine gO ?_
 ((first | refine ⟨⟨by omega, hN⟩, ?_⟩ | refine ⟨hN, ?_⟩); (try simp only [seval, go_sem]))
 (refine stoV_row 11 rfl rfl rfl rfl rfl rfl rfl (by simp) ?_; simp only [seval, go_sem, putV]; refine gO ?_)
 ((first | refine ⟨⟨by omega, hE⟩, ?_⟩ | refine ⟨hE, ?_⟩); (try simp only [seval, go_sem]))
 refine gO ?_
 have hz05 := Zc.trans' hz4 hz5
 refine ldF.agg (sz := 10) (txL e0 m0) rfl (RdS.part 10 rfl (fun i u hu => ends_sub (l1 := (endsC e0 e1 m0 m1).take 0) (l3 := (endsC e0 e1 m0 m1).drop 10) rfl rfl hu)) ?_
 refine gO ?_
 have hc1 := txhear_i ⟨1, win, mps, mtu, tri⟩ e0.tx ⟨2, seq, ack, poll, fin, say, seg, len, data⟩ _ _ (.slice Ax data.length kx) z5 hI.tx (hR0.fl.mono hz05) (hR0.qu.mono hz05) hx hok (.inr rfl)
 unfold hearN1
 generalize txHear e0.tx ⟨2, seq, ack, poll, fin, say, seg, len, data⟩ = tp at hc1 ⊢
 obtain ⟨next, acked, fl, sent, qu, asks, tries, held, count, dead⟩ := tp
 dsimp only at hc1 ⊢
 refine tT ?_; refine callP (hc1) rfl rfl ?_; rintro u z6 hz6 ⟨fA, fC, qA, qC, rfl, hf1, hq1⟩; refine gO ?_
 (refine stoV_row 10 rfl rfl rfl rfl rfl rfl rfl (by rw [endsC_len]; simp) ?_; simp only [seval, go_sem, ends_tx0]; refine gO ?_)
 refine ldF.agg (sz := 7) (rxL e0 m0) rfl (RdS.part 10 rfl (fun i u hu => ends_sub (l1 := (endsC { e0 with tx := ⟨next, acked, fl, sent, qu, asks, tries, held, count, dead⟩ } e1 { m0 with fA := fA, fC := fC, qA := qA, qC := qC } m1).take 10) (l3 := (endsC { e0 with tx := ⟨next, acked, fl, sent, qu, asks, tries, held, count, dead⟩ } e1 { m0 with fA := fA, fC := fC, qA := qA, qC := qC } m1).drop 17) rfl rfl hu)) ?_
 refine gO ?_
 have hc2 := rxhear_i ⟨1, win, mps, mtu, tri⟩ e0.rx ⟨2, seq, ack, poll, fin, say, seg, len, data⟩ _ (.slice Ax data.length kx) z6 hI.tx.cfg (Sl.mono (Zc.trans' hz05 hz6) hR0.jo) (Sl.mono hz6 hx) hI.rx hok (.inr rfl)
 have hfr := @rxHear_frm ⟨1, win, mps, mtu, tri⟩ e0.rx ⟨2, seq, ack, poll, fin, say, seg, len, data⟩ hI.rx
 have hln := @rxHear_len ⟨1, win, mps, mtu, tri⟩ e0.rx ⟨2, seq, ack, poll, fin, say, seg, len, data⟩
 have hsl := (@rxHear_ok ⟨1, win, mps, mtu, tri⟩ e0.rx ⟨2, seq, ack, poll, fin, say, seg, len, data⟩ hI.rx hok (.inr rfl)).2.2
 generalize rxHear ⟨1, win, mps, mtu, tri⟩ e0.rx ⟨2, seq, ack, poll, fin, say, seg, len, data⟩ = tq at hc2 hfr hln hsl ⊢
 obtain ⟨⟨rexpect, rcount, ⟨rlen, rgot⟩, ragain, rbusy, rdead⟩, sdus, sys⟩ := tq
 dsimp only at hc2 hfr hln hsl ⊢
 refine tT ?_; refine callP (hc2) rfl rfl ?_; rintro u z7 hz7 ⟨A5, k5, B6, m6, k6, B7, m7, k7, rfl, h5, h6, h7⟩; refine gO ?_; (try simp only [seval, go_sem])
 dsimp only at h5 h6 h7
 obtain ⟨_, _, cs6, e6, hk6, he6, hr6⟩ := h6
 obtain ⟨_, _, cs7, e7, hk7, he7, hr7⟩ := h7
 injection e6 with e1 e2 e3
 subst e1; subst e2; subst e3
 injection e7 with e1 e2 e3
 subst e1; subst e2; subst e3
 refine gO ?_
 (refine stoV_row 10 rfl rfl rfl rfl rfl rfl rfl (by rw [endsC_len]; simp) ?_; simp only [seval, go_sem, ends_rx0]; refine gO ?_)
 have hz67 := Zc.trans' hz6 hz7
 have hzz := Zc.trans' hz05 hz67
 refine loopV.tf (Tf.cut 40 rfl rfl 1 (rest.length + 1) C0 (by omega) (by simp) hcap (by omega) (.inr (.inr hA))) ?_
 simp only [Nat.one_mul, Nat.add_sub_cancel, hnv]
 refine loop_upd (ι := TelS) (n := 2) (fun s => z7 ≤ s.z ∧ s.i ≤ sdus.length ∧ s.g = tell e0.got (sdus.take s.i) ∧ Els sduRep s.z s.g s.V ∧ s.g.length ≤ s.C ∧ s.g.length ≤ 60) (fun s => [(144, .c (.v (.int .i64 s.i)))])
  (fun s => wldK b ⟨1, win, mps, mtu, tri⟩ link { e0 with tx := ⟨next, acked, fl, sent, qu, asks, tries, held, count, dead⟩, rx := ⟨rexpect, rcount, ⟨rlen, rgot⟩, ragain, rbusy, rdead⟩, got := s.g } e1 rest n1 ⟨E, EC, N, NC, { m0 with fA := fA, fC := fC, qA := qA, qC := qC, jA := A5, jC := k5, gA := s.A, gC := s.C, gV := s.V }, m1, ⟨cutA A0 C0 1 2, C0 - 1, ms⟩, ⟨A1, C1, ms1⟩⟩ ++ [(1, .cells 65 [.v (.int .i64 2), .v (.int .i64 seq), .v (.int .i64 ack), .v (.bool poll), .v (.bool fin), .v (.int .i64 say), .v (.int .i64 seg), .v (.int .i64 len), .v (.slice Ax data.length kx)])]) (fun s => s.z) (fun s => sdus.length - s.i) ⟨0, e0.got, m0.gA, m0.gC, m0.gV, z7⟩ ⟨Zc.rfl' _, by simp, by simp [tell], hR0.go.mono hzz, hR0.gc, hI.got.1⟩ (by (simp only [wrI, wrR, anyL, st, List.append_nil, List.nil_append, List.cons_append]); exact rfl) ?_ ?_
 ·simp only [wldK, wldE, List.cons_append, List.nil_append]
  exact lX
 ·rintro ⟨i, g, gA, gC, gV, z8⟩ ⟨hz8, hi, hgl, hge, hgc, hg60⟩
  dsimp only at *
  simp only [wldK, wldE, List.cons_append, List.nil_append]
  refine gO ?_
  (with_reducible refine condI.split (fun hg => ?_) (fun hg => ?_) <;> (try simp only [hg]) <;> (try simp only [seval, go_sem]))
  ·have hi' : i < sdus.length := by simp at hg; omega
   obtain ⟨x, hx'⟩ : ∃ x, sdus[i]? = some x := ⟨_, List.getElem?_eq_getElem hi'⟩
   obtain ⟨c1, ⟨v, rfl, hb⟩, hr1⟩ := (he6.mono hz8).at (hr6.mono hz8) hx'
   obtain ⟨Ay, cy, rfl, hcy, hBy, hry⟩ := By.form hb
   have hat := he6.isAt hr6 (by decide) hi'
   refine gO ?_
   (refine ⟨⟨by omega, by omega, hat⟩, ?_⟩; (try simp only [seval, go_sem]))
   (refine ldF.one _ (by first | exact .inl hr1 | exact hr1) ?_; (try simp only [seval, go_sem]))
   refine gO ?_
   (refine ldF.one _ (RdS.cell 10 rfl rfl) ?_; refine gO ?_)
   (with_reducible refine condI.split (fun hg => ?_) (fun hg => ?_) <;> (try simp only [hg]) <;> (try simp only [seval, go_sem]))
   ·refine gO ?_
    (refine ldF.one _ (RdS.cell 10 rfl rfl) ?_; refine gO ?_)
    refine aT ?_; (refine appM_newF 23 atyS rfl rfl rfl rfl rfl rfl rfl (by simp [Value.oneCell']) (by omega) (fun A6 c6 hc6 hat6 => ?_)); refine gO ?_
    (refine stoV_row 10 rfl rfl rfl rfl rfl rfl rfl (by rw [endsC_len]; simp) ?_; refine gO ?_)
    rw [ends_gotV0 _ _ _ _ (g ++ [x]) _ _ _ (gV ++ [.slice Ay x.length cy]) (by simp), show g.length + 1 = (g ++ [x]).length by simp]
    refine ⟨⟨i + 1, g ++ [x], A6, c6, gV ++ [.slice Ay x.length cy], z8⟩, ⟨hz8, by dsimp only; omega, ?_, hge.append (Els.single (d := sduRep) ⟨_, rfl, By.mk hcy hBy hry⟩), by simp; exact hc6, by have := of_decide_eq_true hg; simp; omega⟩, by dsimp only; omega, ?_⟩
    ·dsimp only; rw [tell_take hx', ← hgl, if_pos (by have := of_decide_eq_true hg; omega)]
    ·exact lX
   ·refine gO ?_
    refine ⟨⟨i + 1, g, gA, gC, gV, z8⟩, ⟨hz8, by dsimp only; omega, by dsimp only; rw [tell_take hx', ← hgl, if_neg (by have := of_decide_eq_false hg; omega)], hge, hgc, hg60⟩, by dsimp only; omega, ?_⟩
    exact lX
  ·have hil : i = sdus.length := by simp at hg; omega
   subst hil
   rw [List.take_length] at hgl
   subst hgl
   refine gO ?_
   have hR8 : WldB z8 { e0 with tx := ⟨next, acked, fl, sent, qu, asks, tries, held, count, dead⟩, rx := ⟨rexpect, rcount, ⟨rlen, rgot⟩, ragain, rbusy, rdead⟩, got := (tell e0.got sdus) } e1 rest n1 ⟨E, EC, N, NC, { m0 with fA := fA, fC := fC, qA := qA, qC := qC, jA := A5, jC := k5, gA := gA, gC := gC, gV := gV }, m1, ⟨cutA A0 C0 1 2, C0 - 1, ms⟩, ⟨A1, C1, ms1⟩⟩ := ⟨{ (hR0.mono (Zc.trans' hzz hz8)) with fl := hf1.mono (Zc.trans' hz7 hz8), qu := hq1.mono (Zc.trans' hz7 hz8), jo := Sl.mono hz8 h5, go := hge, gc := hgc }, hR1.mono (Zc.trans' hzz hz8), ⟨hno, hcap1⟩, hRn1⟩
   (refine callT.give 93 0 2003 rfl rfl (fun b3 => ?_)); simp only [seval, go_sem, giveSt, subV, subC, subE, subL]
   refine wC ?_
   refine tT ?_; refine callW 94 (say_p0 b3 ⟨1, win, mps, mtu, tri⟩ link { e0 with tx := ⟨next, acked, fl, sent, qu, asks, tries, held, count, dead⟩, rx := ⟨rexpect, rcount, ⟨rlen, rgot⟩, ragain, rbusy, rdead⟩, got := (tell e0.got sdus) } e1 rest n1 ⟨E, EC, N, NC, { m0 with fA := fA, fC := fC, qA := qA, qC := qC, jA := A5, jC := k5, gA := gA, gC := gC, gV := gV }, m1, ⟨cutA A0 C0 1 2, C0 - 1, ms⟩, ⟨A1, C1, ms1⟩⟩ sys (.slice B7 sys.length k7) z8 hR8 (⟨B7, k7, cs7, rfl, hk7, he7.mono hz8, hr7.mono hz8⟩) (by omega) (hfr) (by simp at h0; omega) (by skip; omega)) rfl rfl rfl rfl ?_; rintro v3 z3 A3 hz3 ⟨f0, f1, g0, g1, m3, link3, hw3, rfl, hR9⟩; refine gO ?_
   refine wO ?_
   refine wF5 ?_
   exact ⟨f0, f1, g0, g1, m3, link3, hw3, rfl, hR9⟩
theorem hear_n1_1 (b : Nat) (c : Cfg) (link : Int) (e0 e1 : End) (n0 n1 : List Msg) (msg : Msg) (rest : List Msg) (f : Frm) (m : WM) (z : Zc) (hR : WldB z e0 e1 n0 n1 m) (hI : EndI c e1) (hm : c.mode = 1) (h0 : n0.length ≤ 30) (h1 : n1.length ≤ 30) (h15 : msg.bytes.length ≤ 15) (hn : n1 = msg :: rest) (hf : frmRead msg.bytes = some f) (hok : frmOk f = true) (hkk : f.kind = 1) (hE : IsAt m.E) (hN : IsAt m.N) (hA : IsAt m.n1.A) :
  Spec Tryz.prog 105 [.pointer (some ⟨b, 0, none⟩), .int .i64 1] z (wldP b c link e0 e1 n0 n1 m) fun _ z' A' => WldQ c (says ⟨c, [e0, e1].set 1 (hearN1 c e1 f), [n0, n1].set 1 rest, link⟩ 1 (rxHear c e1.rx f).2.2) b z' A' := by
 subst hn
 obtain ⟨E, EC, N, NC, m0, m1, ⟨A0, C0, ms0⟩, ⟨A1, C1, ms1⟩⟩ := m
 obtain ⟨hR0, hR1, hRn0, hRn1⟩ := hR
 have hno := hRn1.ok
 have hcap := hRn1.cap
 dsimp only at hno hcap hR0 hR1 hRn0 hRn1 hE hN hA
 cases ms1 with
 | nil => exact hno.elim
 | cons x ms =>
 obtain ⟨a, cb⟩ := x
 obtain ⟨⟨hb1, hb2⟩, hno⟩ := hno
 have hvl := netV_len hno
 have hlr : (msg :: rest).length = rest.length + 1 := rfl
 have hnv : List.take (rest.length * 2) (List.drop 2 (netV (msg :: rest) ((a, cb) :: ms))) = netV rest ms := List.take_of_length_le (by show (netV rest ms).length ≤ _; omega)
 have hcap1 : rest.length ≤ C1 - 1 := by rw [hlr] at hcap; omega
 obtain ⟨kind, seq, ack, poll, fin, say, seg, len, data⟩ := f
 dsimp only at hkk
 subst hkk
 obtain ⟨mode, win, mps, mtu, tri⟩ := c
 dsimp only at hm
 subst hm
 refine eQ kyI k105 ?_
 ((first | refine ⟨⟨by omega, hN⟩, ?_⟩ | refine ⟨hN, ?_⟩); (try simp only [seval, go_sem]))
 (refine ldF.one _ (RdS.cell 11 rfl rfl) ?_; refine gO ?_)
 refine ⟨⟨by simp, hA⟩, ?_⟩
 refine gO ?_
 (refine ldF.one _ (RdS.cell 50 rfl rfl) ?_; refine gO ?_)
 refine callT.tf (Tf.split 51 46 rfl rfl rfl) ?_
 dsimp only
 refine callT.frzA 46 rfl (RdA.bys hb1 hb2) (fun z4 hz4 hby => ?_)
 dsimp only at hz4
 simp only [seval, go_sem]
 have hc := frmRead_i msg.bytes _ z4 hby (by omega)
 simp only [hf] at hc
 refine tT ?_; refine callP (hc) rfl rfl ?_; rintro u z5 hz5 ⟨x, rfl, hx⟩; (try simp only [seval, go_sem])
 obtain ⟨Ax, kx, rfl, hkx, hBx, hrx⟩ := hx.form
 try dsimp only at hx
 refine gO ?_
 ((first | refine ⟨⟨by omega, hN⟩, ?_⟩ | refine ⟨hN, ?_⟩); (try simp only [seval, go_sem]))
 (refine ldF.one _ (RdS.cell 11 rfl rfl) ?_; refine gO ?_)
 refine ⟨by omega, ?_⟩; refine gO ?_
 ((first | refine ⟨⟨by omega, hN⟩, ?_⟩ | refine ⟨hN, ?_⟩); (try simp only [seval, go_sem]))
 (refine stoV_row 11 rfl rfl rfl rfl rfl rfl rfl (by simp) ?_; simp only [seval, go_sem, putV]; refine gO ?_)
 ((first | refine ⟨⟨by omega, hE⟩, ?_⟩ | refine ⟨hE, ?_⟩); (try simp only [seval, go_sem]))
 refine gO ?_
 have hz05 := Zc.trans' hz4 hz5
 refine ldF.agg (sz := 10) (txL e1 m1) rfl (RdS.part 10 rfl (fun i u hu => ends_sub (l1 := (endsC e0 e1 m0 m1).take 28) (l3 := (endsC e0 e1 m0 m1).drop 38) rfl rfl hu)) ?_
 refine gO ?_
 have hc1 := txhear_i ⟨1, win, mps, mtu, tri⟩ e1.tx ⟨1, seq, ack, poll, fin, say, seg, len, data⟩ _ _ (.slice Ax data.length kx) z5 hI.tx (hR1.fl.mono hz05) (hR1.qu.mono hz05) hx hok (.inl rfl)
 unfold hearN1
 generalize txHear e1.tx ⟨1, seq, ack, poll, fin, say, seg, len, data⟩ = tp at hc1 ⊢
 obtain ⟨next, acked, fl, sent, qu, asks, tries, held, count, dead⟩ := tp
 dsimp only at hc1 ⊢
 refine tT ?_; refine callP (hc1) rfl rfl ?_; rintro u z6 hz6 ⟨fA, fC, qA, qC, rfl, hf1, hq1⟩; refine gO ?_
 (refine stoV_row 10 rfl rfl rfl rfl rfl rfl rfl (by rw [endsC_len]; simp) ?_; simp only [seval, go_sem, ends_tx1]; refine gO ?_)
 refine ldF.agg (sz := 7) (rxL e1 m1) rfl (RdS.part 10 rfl (fun i u hu => ends_sub (l1 := (endsC e0 { e1 with tx := ⟨next, acked, fl, sent, qu, asks, tries, held, count, dead⟩ } m0 { m1 with fA := fA, fC := fC, qA := qA, qC := qC }).take 38) (l3 := (endsC e0 { e1 with tx := ⟨next, acked, fl, sent, qu, asks, tries, held, count, dead⟩ } m0 { m1 with fA := fA, fC := fC, qA := qA, qC := qC }).drop 45) rfl rfl hu)) ?_
 refine gO ?_
 have hc2 := rxhear_i ⟨1, win, mps, mtu, tri⟩ e1.rx ⟨1, seq, ack, poll, fin, say, seg, len, data⟩ _ (.slice Ax data.length kx) z6 hI.tx.cfg (Sl.mono (Zc.trans' hz05 hz6) hR1.jo) (Sl.mono hz6 hx) hI.rx hok (.inl rfl)
 have hfr := @rxHear_frm ⟨1, win, mps, mtu, tri⟩ e1.rx ⟨1, seq, ack, poll, fin, say, seg, len, data⟩ hI.rx
 have hln := @rxHear_len ⟨1, win, mps, mtu, tri⟩ e1.rx ⟨1, seq, ack, poll, fin, say, seg, len, data⟩
 have hsl := (@rxHear_ok ⟨1, win, mps, mtu, tri⟩ e1.rx ⟨1, seq, ack, poll, fin, say, seg, len, data⟩ hI.rx hok (.inl rfl)).2.2
 generalize rxHear ⟨1, win, mps, mtu, tri⟩ e1.rx ⟨1, seq, ack, poll, fin, say, seg, len, data⟩ = tq at hc2 hfr hln hsl ⊢
 obtain ⟨⟨rexpect, rcount, ⟨rlen, rgot⟩, ragain, rbusy, rdead⟩, sdus, sys⟩ := tq
 dsimp only at hc2 hfr hln hsl ⊢
 refine tT ?_; refine callP (hc2) rfl rfl ?_; rintro u z7 hz7 ⟨A5, k5, B6, m6, k6, B7, m7, k7, rfl, h5, h6, h7⟩; refine gO ?_; (try simp only [seval, go_sem])
 dsimp only at h5 h6 h7
 obtain ⟨_, _, cs6, e6, hk6, he6, hr6⟩ := h6
 obtain ⟨_, _, cs7, e7, hk7, he7, hr7⟩ := h7
 injection e6 with e1 e2 e3
 subst e1; subst e2; subst e3
 injection e7 with e1 e2 e3
 subst e1; subst e2; subst e3
 refine gO ?_
 (refine stoV_row 10 rfl rfl rfl rfl rfl rfl rfl (by rw [endsC_len]; simp) ?_; simp only [seval, go_sem, ends_rx1]; refine gO ?_)
 have hz67 := Zc.trans' hz6 hz7
 have hzz := Zc.trans' hz05 hz67
 refine loopV.tf (Tf.cut 50 rfl rfl 1 (rest.length + 1) C1 (by omega) (by simp) hcap (by omega) (.inr (.inr hA))) ?_
 simp only [Nat.one_mul, Nat.add_sub_cancel, hnv]
 refine loop_upd (ι := TelS) (n := 2) (fun s => z7 ≤ s.z ∧ s.i ≤ sdus.length ∧ s.g = tell e1.got (sdus.take s.i) ∧ Els sduRep s.z s.g s.V ∧ s.g.length ≤ s.C ∧ s.g.length ≤ 60) (fun s => [(144, .c (.v (.int .i64 s.i)))])
  (fun s => wldK b ⟨1, win, mps, mtu, tri⟩ link e0 { e1 with tx := ⟨next, acked, fl, sent, qu, asks, tries, held, count, dead⟩, rx := ⟨rexpect, rcount, ⟨rlen, rgot⟩, ragain, rbusy, rdead⟩, got := s.g } n0 rest ⟨E, EC, N, NC, m0, { m1 with fA := fA, fC := fC, qA := qA, qC := qC, jA := A5, jC := k5, gA := s.A, gC := s.C, gV := s.V }, ⟨A0, C0, ms0⟩, ⟨cutA A1 C1 1 2, C1 - 1, ms⟩⟩ ++ [(1, .cells 65 [.v (.int .i64 1), .v (.int .i64 seq), .v (.int .i64 ack), .v (.bool poll), .v (.bool fin), .v (.int .i64 say), .v (.int .i64 seg), .v (.int .i64 len), .v (.slice Ax data.length kx)])]) (fun s => s.z) (fun s => sdus.length - s.i) ⟨0, e1.got, m1.gA, m1.gC, m1.gV, z7⟩ ⟨Zc.rfl' _, by simp, by simp [tell], hR1.go.mono hzz, hR1.gc, hI.got.1⟩ (by (simp only [wrI, wrR, anyL, st, List.append_nil, List.nil_append, List.cons_append]); exact rfl) ?_ ?_
 ·simp only [wldK, wldE, List.cons_append, List.nil_append]
  exact lX
 ·rintro ⟨i, g, gA, gC, gV, z8⟩ ⟨hz8, hi, hgl, hge, hgc, hg60⟩
  dsimp only at *
  simp only [wldK, wldE, List.cons_append, List.nil_append]
  refine gO ?_
  (with_reducible refine condI.split (fun hg => ?_) (fun hg => ?_) <;> (try simp only [hg]) <;> (try simp only [seval, go_sem]))
  ·have hi' : i < sdus.length := by simp at hg; omega
   obtain ⟨x, hx'⟩ : ∃ x, sdus[i]? = some x := ⟨_, List.getElem?_eq_getElem hi'⟩
   obtain ⟨c1, ⟨v, rfl, hb⟩, hr1⟩ := (he6.mono hz8).at (hr6.mono hz8) hx'
   obtain ⟨Ay, cy, rfl, hcy, hBy, hry⟩ := By.form hb
   have hat := he6.isAt hr6 (by decide) hi'
   refine gO ?_
   (refine ⟨⟨by omega, by omega, hat⟩, ?_⟩; (try simp only [seval, go_sem]))
   (refine ldF.one _ (by first | exact .inl hr1 | exact hr1) ?_; (try simp only [seval, go_sem]))
   refine gO ?_
   (refine ldF.one _ (RdS.cell 10 rfl rfl) ?_; refine gO ?_)
   (with_reducible refine condI.split (fun hg => ?_) (fun hg => ?_) <;> (try simp only [hg]) <;> (try simp only [seval, go_sem]))
   ·refine gO ?_
    (refine ldF.one _ (RdS.cell 10 rfl rfl) ?_; refine gO ?_)
    refine aT ?_; (refine appM_newF 33 atyS rfl rfl rfl rfl rfl rfl rfl (by simp [Value.oneCell']) (by omega) (fun A6 c6 hc6 hat6 => ?_)); refine gO ?_
    (refine stoV_row 10 rfl rfl rfl rfl rfl rfl rfl (by rw [endsC_len]; simp) ?_; refine gO ?_)
    rw [ends_gotV1 _ _ _ _ (g ++ [x]) _ _ _ (gV ++ [.slice Ay x.length cy]) (by simp), show g.length + 1 = (g ++ [x]).length by simp]
    refine ⟨⟨i + 1, g ++ [x], A6, c6, gV ++ [.slice Ay x.length cy], z8⟩, ⟨hz8, by dsimp only; omega, ?_, hge.append (Els.single (d := sduRep) ⟨_, rfl, By.mk hcy hBy hry⟩), by simp; exact hc6, by have := of_decide_eq_true hg; simp; omega⟩, by dsimp only; omega, ?_⟩
    ·dsimp only; rw [tell_take hx', ← hgl, if_pos (by have := of_decide_eq_true hg; omega)]
    ·exact lX
   ·refine gO ?_
    refine ⟨⟨i + 1, g, gA, gC, gV, z8⟩, ⟨hz8, by dsimp only; omega, by dsimp only; rw [tell_take hx', ← hgl, if_neg (by have := of_decide_eq_false hg; omega)], hge, hgc, hg60⟩, by dsimp only; omega, ?_⟩
    exact lX
  ·have hil : i = sdus.length := by simp at hg; omega
   subst hil
   rw [List.take_length] at hgl
   subst hgl
   refine gO ?_
   have hR8 : WldB z8 e0 { e1 with tx := ⟨next, acked, fl, sent, qu, asks, tries, held, count, dead⟩, rx := ⟨rexpect, rcount, ⟨rlen, rgot⟩, ragain, rbusy, rdead⟩, got := (tell e1.got sdus) } n0 rest ⟨E, EC, N, NC, m0, { m1 with fA := fA, fC := fC, qA := qA, qC := qC, jA := A5, jC := k5, gA := gA, gC := gC, gV := gV }, ⟨A0, C0, ms0⟩, ⟨cutA A1 C1 1 2, C1 - 1, ms⟩⟩ := ⟨hR0.mono (Zc.trans' hzz hz8), { (hR1.mono (Zc.trans' hzz hz8)) with fl := hf1.mono (Zc.trans' hz7 hz8), qu := hq1.mono (Zc.trans' hz7 hz8), jo := Sl.mono hz8 h5, go := hge, gc := hgc }, hRn0, ⟨hno, hcap1⟩⟩
   (refine callT.give 93 0 2003 rfl rfl (fun b3 => ?_)); simp only [seval, go_sem, giveSt, subV, subC, subE, subL]
   refine wC ?_
   refine tT ?_; refine callW 94 (say_p1 b3 ⟨1, win, mps, mtu, tri⟩ link e0 { e1 with tx := ⟨next, acked, fl, sent, qu, asks, tries, held, count, dead⟩, rx := ⟨rexpect, rcount, ⟨rlen, rgot⟩, ragain, rbusy, rdead⟩, got := (tell e1.got sdus) } n0 rest ⟨E, EC, N, NC, m0, { m1 with fA := fA, fC := fC, qA := qA, qC := qC, jA := A5, jC := k5, gA := gA, gC := gC, gV := gV }, ⟨A0, C0, ms0⟩, ⟨cutA A1 C1 1 2, C1 - 1, ms⟩⟩ sys (.slice B7 sys.length k7) z8 hR8 (⟨B7, k7, cs7, rfl, hk7, he7.mono hz8, hr7.mono hz8⟩) (by omega) (hfr) (by skip; omega) (by simp at h1; omega)) rfl rfl rfl rfl ?_; rintro v3 z3 A3 hz3 ⟨f0, f1, g0, g1, m3, link3, hw3, rfl, hR9⟩; refine gO ?_
   refine wO ?_
   refine wF5 ?_
   exact ⟨f0, f1, g0, g1, m3, link3, hw3, rfl, hR9⟩
theorem hear_n2_1 (b : Nat) (c : Cfg) (link : Int) (e0 e1 : End) (n0 n1 : List Msg) (msg : Msg) (rest : List Msg) (f : Frm) (m : WM) (z : Zc) (hR : WldB z e0 e1 n0 n1 m) (hI : EndI c e1) (hm : c.mode = 1) (h0 : n0.length ≤ 30) (h1 : n1.length ≤ 30) (h15 : msg.bytes.length ≤ 15) (hn : n1 = msg :: rest) (hf : frmRead msg.bytes = some f) (hok : frmOk f = true) (hkk : f.kind = 2) (hE : IsAt m.E) (hN : IsAt m.N) (hA : IsAt m.n1.A) :
  Spec Tryz.prog 105 [.pointer (some ⟨b, 0, none⟩), .int .i64 1] z (wldP b c link e0 e1 n0 n1 m) fun _ z' A' => WldQ c (says ⟨c, [e0, e1].set 1 (hearN1 c e1 f), [n0, n1].set 1 rest, link⟩ 1 (rxHear c e1.rx f).2.2) b z' A' := by
 subst hn
 obtain ⟨E, EC, N, NC, m0, m1, ⟨A0, C0, ms0⟩, ⟨A1, C1, ms1⟩⟩ := m
 obtain ⟨hR0, hR1, hRn0, hRn1⟩ := hR
 have hno := hRn1.ok
 have hcap := hRn1.cap
 dsimp only at hno hcap hR0 hR1 hRn0 hRn1 hE hN hA
 cases ms1 with
 | nil => exact hno.elim
 | cons x ms =>
 obtain ⟨a, cb⟩ := x
 obtain ⟨⟨hb1, hb2⟩, hno⟩ := hno
 have hvl := netV_len hno
 have hlr : (msg :: rest).length = rest.length + 1 := rfl
 have hnv : List.take (rest.length * 2) (List.drop 2 (netV (msg :: rest) ((a, cb) :: ms))) = netV rest ms := List.take_of_length_le (by show (netV rest ms).length ≤ _; omega)
 have hcap1 : rest.length ≤ C1 - 1 := by rw [hlr] at hcap; omega
 obtain ⟨kind, seq, ack, poll, fin, say, seg, len, data⟩ := f
 dsimp only at hkk
 subst hkk
 obtain ⟨mode, win, mps, mtu, tri⟩ := c
 dsimp only at hm
 subst hm
 refine eQ kyI k105 ?_
 ((first | refine ⟨⟨by omega, hN⟩, ?_⟩ | refine ⟨hN, ?_⟩); (try simp only [seval, go_sem]))
 (refine ldF.one _ (RdS.cell 11 rfl rfl) ?_; refine gO ?_)
 refine ⟨⟨by simp, hA⟩, ?_⟩
 refine gO ?_
 (refine ldF.one _ (RdS.cell 50 rfl rfl) ?_; refine gO ?_)
 refine callT.tf (Tf.split 51 46 rfl rfl rfl) ?_
 dsimp only
 refine callT.frzA 46 rfl (RdA.bys hb1 hb2) (fun z4 hz4 hby => ?_)
 dsimp only at hz4
 simp only [seval, go_sem]
 have hc := frmRead_i msg.bytes _ z4 hby (by omega)
 simp only [hf] at hc
 refine tT ?_; refine callP (hc) rfl rfl ?_; rintro u z5 hz5 ⟨x, rfl, hx⟩; (try simp only [seval, go_sem])
 obtain ⟨Ax, kx, rfl, hkx, hBx, hrx⟩ := hx.form
 try dsimp only at hx
 refine gO ?_
 ((first | refine ⟨⟨by omega, hN⟩, ?_⟩ | refine ⟨hN, ?_⟩); (try simp only [seval, go_sem]))
 (refine ldF.one _ (RdS.cell 11 rfl rfl) ?_; refine gO ?_)
 refine ⟨by omega, ?_⟩; refine gO ?_
 ((first | refine ⟨⟨by omega, hN⟩, ?_⟩ | refine ⟨hN, ?_⟩); (try simp only [seval, go_sem]))
 (refine stoV_row 11 rfl rfl rfl rfl rfl rfl rfl (by simp) ?_; simp only [seval, go_sem, putV]; refine gO ?_)
 ((first | refine ⟨⟨by omega, hE⟩, ?_⟩ | refine ⟨hE, ?_⟩); (try simp only [seval, go_sem]))
 refine gO ?_
 have hz05 := Zc.trans' hz4 hz5
 refine ldF.agg (sz := 10) (txL e1 m1) rfl (RdS.part 10 rfl (fun i u hu => ends_sub (l1 := (endsC e0 e1 m0 m1).take 28) (l3 := (endsC e0 e1 m0 m1).drop 38) rfl rfl hu)) ?_
 refine gO ?_
 have hc1 := txhear_i ⟨1, win, mps, mtu, tri⟩ e1.tx ⟨2, seq, ack, poll, fin, say, seg, len, data⟩ _ _ (.slice Ax data.length kx) z5 hI.tx (hR1.fl.mono hz05) (hR1.qu.mono hz05) hx hok (.inr rfl)
 unfold hearN1
 generalize txHear e1.tx ⟨2, seq, ack, poll, fin, say, seg, len, data⟩ = tp at hc1 ⊢
 obtain ⟨next, acked, fl, sent, qu, asks, tries, held, count, dead⟩ := tp
 dsimp only at hc1 ⊢
 refine tT ?_; refine callP (hc1) rfl rfl ?_; rintro u z6 hz6 ⟨fA, fC, qA, qC, rfl, hf1, hq1⟩; refine gO ?_
 (refine stoV_row 10 rfl rfl rfl rfl rfl rfl rfl (by rw [endsC_len]; simp) ?_; simp only [seval, go_sem, ends_tx1]; refine gO ?_)
 refine ldF.agg (sz := 7) (rxL e1 m1) rfl (RdS.part 10 rfl (fun i u hu => ends_sub (l1 := (endsC e0 { e1 with tx := ⟨next, acked, fl, sent, qu, asks, tries, held, count, dead⟩ } m0 { m1 with fA := fA, fC := fC, qA := qA, qC := qC }).take 38) (l3 := (endsC e0 { e1 with tx := ⟨next, acked, fl, sent, qu, asks, tries, held, count, dead⟩ } m0 { m1 with fA := fA, fC := fC, qA := qA, qC := qC }).drop 45) rfl rfl hu)) ?_
 refine gO ?_
 have hc2 := rxhear_i ⟨1, win, mps, mtu, tri⟩ e1.rx ⟨2, seq, ack, poll, fin, say, seg, len, data⟩ _ (.slice Ax data.length kx) z6 hI.tx.cfg (Sl.mono (Zc.trans' hz05 hz6) hR1.jo) (Sl.mono hz6 hx) hI.rx hok (.inr rfl)
 have hfr := @rxHear_frm ⟨1, win, mps, mtu, tri⟩ e1.rx ⟨2, seq, ack, poll, fin, say, seg, len, data⟩ hI.rx
 have hln := @rxHear_len ⟨1, win, mps, mtu, tri⟩ e1.rx ⟨2, seq, ack, poll, fin, say, seg, len, data⟩
 have hsl := (@rxHear_ok ⟨1, win, mps, mtu, tri⟩ e1.rx ⟨2, seq, ack, poll, fin, say, seg, len, data⟩ hI.rx hok (.inr rfl)).2.2
 generalize rxHear ⟨1, win, mps, mtu, tri⟩ e1.rx ⟨2, seq, ack, poll, fin, say, seg, len, data⟩ = tq at hc2 hfr hln hsl ⊢
 obtain ⟨⟨rexpect, rcount, ⟨rlen, rgot⟩, ragain, rbusy, rdead⟩, sdus, sys⟩ := tq
 dsimp only at hc2 hfr hln hsl ⊢
 refine tT ?_; refine callP (hc2) rfl rfl ?_; rintro u z7 hz7 ⟨A5, k5, B6, m6, k6, B7, m7, k7, rfl, h5, h6, h7⟩; refine gO ?_; (try simp only [seval, go_sem])
 dsimp only at h5 h6 h7
 obtain ⟨_, _, cs6, e6, hk6, he6, hr6⟩ := h6
 obtain ⟨_, _, cs7, e7, hk7, he7, hr7⟩ := h7
 injection e6 with e1 e2 e3
 subst e1; subst e2; subst e3
 injection e7 with e1 e2 e3
 subst e1; subst e2; subst e3
 refine gO ?_
 (refine stoV_row 10 rfl rfl rfl rfl rfl rfl rfl (by rw [endsC_len]; simp) ?_; simp only [seval, go_sem, ends_rx1]; refine gO ?_)
 have hz67 := Zc.trans' hz6 hz7
 have hzz := Zc.trans' hz05 hz67
 refine loopV.tf (Tf.cut 50 rfl rfl 1 (rest.length + 1) C1 (by omega) (by simp) hcap (by omega) (.inr (.inr hA))) ?_
 simp only [Nat.one_mul, Nat.add_sub_cancel, hnv]
 refine loop_upd (ι := TelS) (n := 2) (fun s => z7 ≤ s.z ∧ s.i ≤ sdus.length ∧ s.g = tell e1.got (sdus.take s.i) ∧ Els sduRep s.z s.g s.V ∧ s.g.length ≤ s.C ∧ s.g.length ≤ 60) (fun s => [(144, .c (.v (.int .i64 s.i)))])
  (fun s => wldK b ⟨1, win, mps, mtu, tri⟩ link e0 { e1 with tx := ⟨next, acked, fl, sent, qu, asks, tries, held, count, dead⟩, rx := ⟨rexpect, rcount, ⟨rlen, rgot⟩, ragain, rbusy, rdead⟩, got := s.g } n0 rest ⟨E, EC, N, NC, m0, { m1 with fA := fA, fC := fC, qA := qA, qC := qC, jA := A5, jC := k5, gA := s.A, gC := s.C, gV := s.V }, ⟨A0, C0, ms0⟩, ⟨cutA A1 C1 1 2, C1 - 1, ms⟩⟩ ++ [(1, .cells 65 [.v (.int .i64 2), .v (.int .i64 seq), .v (.int .i64 ack), .v (.bool poll), .v (.bool fin), .v (.int .i64 say), .v (.int .i64 seg), .v (.int .i64 len), .v (.slice Ax data.length kx)])]) (fun s => s.z) (fun s => sdus.length - s.i) ⟨0, e1.got, m1.gA, m1.gC, m1.gV, z7⟩ ⟨Zc.rfl' _, by simp, by simp [tell], hR1.go.mono hzz, hR1.gc, hI.got.1⟩ (by (simp only [wrI, wrR, anyL, st, List.append_nil, List.nil_append, List.cons_append]); exact rfl) ?_ ?_
 ·simp only [wldK, wldE, List.cons_append, List.nil_append]
  exact lX
 ·rintro ⟨i, g, gA, gC, gV, z8⟩ ⟨hz8, hi, hgl, hge, hgc, hg60⟩
  dsimp only at *
  simp only [wldK, wldE, List.cons_append, List.nil_append]
  refine gO ?_
  (with_reducible refine condI.split (fun hg => ?_) (fun hg => ?_) <;> (try simp only [hg]) <;> (try simp only [seval, go_sem]))
  ·have hi' : i < sdus.length := by simp at hg; omega
   obtain ⟨x, hx'⟩ : ∃ x, sdus[i]? = some x := ⟨_, List.getElem?_eq_getElem hi'⟩
   obtain ⟨c1, ⟨v, rfl, hb⟩, hr1⟩ := (he6.mono hz8).at (hr6.mono hz8) hx'
   obtain ⟨Ay, cy, rfl, hcy, hBy, hry⟩ := By.form hb
   have hat := he6.isAt hr6 (by decide) hi'
   refine gO ?_
   (refine ⟨⟨by omega, by omega, hat⟩, ?_⟩; (try simp only [seval, go_sem]))
   (refine ldF.one _ (by first | exact .inl hr1 | exact hr1) ?_; (try simp only [seval, go_sem]))
   refine gO ?_
   (refine ldF.one _ (RdS.cell 10 rfl rfl) ?_; refine gO ?_)
   (with_reducible refine condI.split (fun hg => ?_) (fun hg => ?_) <;> (try simp only [hg]) <;> (try simp only [seval, go_sem]))
   ·refine gO ?_
    (refine ldF.one _ (RdS.cell 10 rfl rfl) ?_; refine gO ?_)
    refine aT ?_; (refine appM_newF 33 atyS rfl rfl rfl rfl rfl rfl rfl (by simp [Value.oneCell']) (by omega) (fun A6 c6 hc6 hat6 => ?_)); refine gO ?_
    (refine stoV_row 10 rfl rfl rfl rfl rfl rfl rfl (by rw [endsC_len]; simp) ?_; refine gO ?_)
    rw [ends_gotV1 _ _ _ _ (g ++ [x]) _ _ _ (gV ++ [.slice Ay x.length cy]) (by simp), show g.length + 1 = (g ++ [x]).length by simp]
    refine ⟨⟨i + 1, g ++ [x], A6, c6, gV ++ [.slice Ay x.length cy], z8⟩, ⟨hz8, by dsimp only; omega, ?_, hge.append (Els.single (d := sduRep) ⟨_, rfl, By.mk hcy hBy hry⟩), by simp; exact hc6, by have := of_decide_eq_true hg; simp; omega⟩, by dsimp only; omega, ?_⟩
    ·dsimp only; rw [tell_take hx', ← hgl, if_pos (by have := of_decide_eq_true hg; omega)]
    ·exact lX
   ·refine gO ?_
    refine ⟨⟨i + 1, g, gA, gC, gV, z8⟩, ⟨hz8, by dsimp only; omega, by dsimp only; rw [tell_take hx', ← hgl, if_neg (by have := of_decide_eq_false hg; omega)], hge, hgc, hg60⟩, by dsimp only; omega, ?_⟩
    exact lX
  ·have hil : i = sdus.length := by simp at hg; omega
   subst hil
   rw [List.take_length] at hgl
   subst hgl
   refine gO ?_
   have hR8 : WldB z8 e0 { e1 with tx := ⟨next, acked, fl, sent, qu, asks, tries, held, count, dead⟩, rx := ⟨rexpect, rcount, ⟨rlen, rgot⟩, ragain, rbusy, rdead⟩, got := (tell e1.got sdus) } n0 rest ⟨E, EC, N, NC, m0, { m1 with fA := fA, fC := fC, qA := qA, qC := qC, jA := A5, jC := k5, gA := gA, gC := gC, gV := gV }, ⟨A0, C0, ms0⟩, ⟨cutA A1 C1 1 2, C1 - 1, ms⟩⟩ := ⟨hR0.mono (Zc.trans' hzz hz8), { (hR1.mono (Zc.trans' hzz hz8)) with fl := hf1.mono (Zc.trans' hz7 hz8), qu := hq1.mono (Zc.trans' hz7 hz8), jo := Sl.mono hz8 h5, go := hge, gc := hgc }, hRn0, ⟨hno, hcap1⟩⟩
   (refine callT.give 93 0 2003 rfl rfl (fun b3 => ?_)); simp only [seval, go_sem, giveSt, subV, subC, subE, subL]
   refine wC ?_
   refine tT ?_; refine callW 94 (say_p1 b3 ⟨1, win, mps, mtu, tri⟩ link e0 { e1 with tx := ⟨next, acked, fl, sent, qu, asks, tries, held, count, dead⟩, rx := ⟨rexpect, rcount, ⟨rlen, rgot⟩, ragain, rbusy, rdead⟩, got := (tell e1.got sdus) } n0 rest ⟨E, EC, N, NC, m0, { m1 with fA := fA, fC := fC, qA := qA, qC := qC, jA := A5, jC := k5, gA := gA, gC := gC, gV := gV }, ⟨A0, C0, ms0⟩, ⟨cutA A1 C1 1 2, C1 - 1, ms⟩⟩ sys (.slice B7 sys.length k7) z8 hR8 (⟨B7, k7, cs7, rfl, hk7, he7.mono hz8, hr7.mono hz8⟩) (by omega) (hfr) (by skip; omega) (by simp at h1; omega)) rfl rfl rfl rfl ?_; rintro v3 z3 A3 hz3 ⟨f0, f1, g0, g1, m3, link3, hw3, rfl, hR9⟩; refine gO ?_
   refine wO ?_
   refine wF5 ?_
   exact ⟨f0, f1, g0, g1, m3, link3, hw3, rfl, hR9⟩
theorem nil_or {α : Type} (l : List α) : l = [] ∨ ∃ x r, l = x :: r := by cases l; exact .inl rfl; exact .inr ⟨_, _, rfl⟩
def StepP (Q : Wld → Evt → Prop) : Prop := ∀ (b : Nat) (c : Cfg) (link : Int) (e0 e1 : End) (n0 n1 : List Msg) (m : WM) (ev : Evt) (v : Value) (z : Zc), By z ev.data v → WldB z e0 e1 n0 n1 m → WldI ⟨c, [e0, e1], [n0, n1], link⟩ → Q ⟨c, [e0, e1], [n0, n1], link⟩ ev →
  Spec Tryz.prog 66 [.pointer (some ⟨b, 0, none⟩), vEvt ev v] z (wldP b c link e0 e1 n0 n1 m) fun _ z' A' => WldQ c (step false ⟨c, [e0, e1], [n0, n1], link⟩ ev) b z' A'
theorem step_h0 (b : Nat) (c : Cfg) (link : Int) (e0 e1 : End) (n0 n1 : List Msg) (msg : Msg) (rest : List Msg) (m : WM) (ev : Evt) (v : Value) (z : Zc) (hv : By z ev.data v) (hR : WldB z e0 e1 n0 n1 m) (W' : Wld) (hc : IsAt m.E → IsAt m.N → IsAt m.n0.A → ∀ bb, Spec Tryz.prog 105 [.pointer (some ⟨bb, 0, none⟩), .int .i64 0] z (wldP bb c link e0 e1 n0 n1 m) fun _ z' A' => WldQ c W' bb z' A') (hn : n0 = msg :: rest) (hw : ev.who = 0) (hk : ev.kind = 7) :
  Spec Tryz.prog 66 [.pointer (some ⟨b, 0, none⟩), vEvt ev v] z (wldP b c link e0 e1 n0 n1 m) fun _ z' A' => WldQ c W' b z' A' := by
 obtain ⟨Av, kv, rfl, hkv, hBv, hrv⟩ := hv.form
 have hs : decide ((n0.length : Int) > 0) = true := decide_eq_true (by rw [hn]; simp)
 have hp : 0 < n0.length := by rw [hn]; simp
 obtain ⟨kind, who, at_, vv, data⟩ := ev
 dsimp only at *
 subst hw
 subst hk
 refine eQ kyI k66 ?_
 refine vsI.atR 11 rfl fun hN => ?_
 have hN := hN (by omega)
 refine vsI.atR 10 rfl fun hE => ?_
 have hE := hE (by omega)
 refine vsI.atR 40 rfl fun hA => ?_
 have hA := hA hp
 refine gO ?_
 refine tT ?_; refine callP (in_i 0 0 1 z) rfl rfl ?_; rintro _ _ - ⟨rfl, rfl⟩; refine gO ?_
 simp only [seval, go_sem, show inB 0 0 1 = true from rfl, show inB 1 0 1 = true from rfl]
 refine gO ?_
 ((first | refine ⟨⟨by omega, hN⟩, ?_⟩ | refine ⟨hN, ?_⟩); (try simp only [seval, go_sem]))
 refine gO ?_
 (refine ldF.one _ (RdS.cell 11 rfl rfl) ?_; refine gO ?_)
 repeat (simp only [seval, go_sem, hs]; refine gO ?_)
 (refine callT.give 93 0 2003 rfl rfl (fun b3 => ?_)); simp only [seval, go_sem, giveSt, subV, subC, subE, subL]
 refine wC ?_
 refine tT ?_; refine callW 94 (hc hE hN hA b3) rfl rfl rfl rfl ?_; rintro v3 z3 A3 hz3 ⟨f0, f1, g0, g1, m3, link3, hw3, rfl, hR3⟩; refine gO ?_
 refine wO ?_
 refine wF5 ?_
 exact ⟨f0, f1, g0, g1, m3, link3, hw3, rfl, hR3⟩
theorem step_e7_0 (b : Nat) (c : Cfg) (link : Int) (e0 e1 : End) (n0 n1 : List Msg) (m : WM) (ev : Evt) (v : Value) (z : Zc) (hv : By z ev.data v) (hR : WldB z e0 e1 n0 n1 m) (hn : n0 = []) (hw : ev.who = 0) (hk : ev.kind = 7) :
  Spec Tryz.prog 66 [.pointer (some ⟨b, 0, none⟩), vEvt ev v] z (wldP b c link e0 e1 n0 n1 m) fun _ z' A' => WldQ c ⟨c, [e0, e1], [n0, n1], link⟩ b z' A' := by
 obtain ⟨Av, kv, rfl, hkv, hBv, hrv⟩ := hv.form
 have hs : decide ((n0.length : Int) > 0) = false := decide_eq_false (by rw [hn]; simp)
 obtain ⟨kind, who, at_, vv, data⟩ := ev
 dsimp only at *
 subst hw
 subst hk
 refine eQ kyI k66 ?_
 refine vsI.atR 11 rfl fun hN => ?_
 have hN := hN (by omega)
 refine gO ?_
 refine tT ?_; refine callP (in_i 0 0 1 z) rfl rfl ?_; rintro _ _ - ⟨rfl, rfl⟩; refine gO ?_
 simp only [seval, go_sem, show inB 0 0 1 = true from rfl, show inB 1 0 1 = true from rfl]
 refine gO ?_
 ((first | refine ⟨⟨by omega, hN⟩, ?_⟩ | refine ⟨hN, ?_⟩); (try simp only [seval, go_sem]))
 refine gO ?_
 (refine ldF.one _ (RdS.cell 11 rfl rfl) ?_; refine gO ?_)
 repeat (simp only [seval, go_sem, hs]; refine gO ?_)
 refine wF5 ?_
 exact WldQ.mk hR
theorem step_e8_0 (b : Nat) (c : Cfg) (link : Int) (e0 e1 : End) (n0 n1 : List Msg) (m : WM) (ev : Evt) (v : Value) (z : Zc) (hv : By z ev.data v) (hR : WldB z e0 e1 n0 n1 m) (hn : n0 = []) (hw : ev.who = 0) (hk : ev.kind = 8) :
  Spec Tryz.prog 66 [.pointer (some ⟨b, 0, none⟩), vEvt ev v] z (wldP b c link e0 e1 n0 n1 m) fun _ z' A' => WldQ c ⟨c, [e0, e1], [n0, n1], link⟩ b z' A' := by
 obtain ⟨Av, kv, rfl, hkv, hBv, hrv⟩ := hv.form
 have hs : decide ((n0.length : Int) > 0) = false := decide_eq_false (by rw [hn]; simp)
 obtain ⟨kind, who, at_, vv, data⟩ := ev
 dsimp only at *
 subst hw
 subst hk
 refine eQ kyI k66 ?_
 refine vsI.atR 11 rfl fun hN => ?_
 have hN := hN (by omega)
 refine gO ?_
 refine tT ?_; refine callP (in_i 0 0 1 z) rfl rfl ?_; rintro _ _ - ⟨rfl, rfl⟩; refine gO ?_
 simp only [seval, go_sem, show inB 0 0 1 = true from rfl, show inB 1 0 1 = true from rfl]
 refine gO ?_
 ((first | refine ⟨⟨by omega, hN⟩, ?_⟩ | refine ⟨hN, ?_⟩); (try simp only [seval, go_sem]))
 refine gO ?_
 (refine ldF.one _ (RdS.cell 11 rfl rfl) ?_; refine gO ?_)
 repeat (simp only [seval, go_sem, hs]; refine gO ?_)
 refine wF5 ?_
 exact WldQ.mk hR
theorem step_e9_0 (b : Nat) (c : Cfg) (link : Int) (e0 e1 : End) (n0 n1 : List Msg) (m : WM) (ev : Evt) (v : Value) (z : Zc) (hv : By z ev.data v) (hR : WldB z e0 e1 n0 n1 m) (hn : n0 = []) (hw : ev.who = 0) (hk : ev.kind = 9) :
  Spec Tryz.prog 66 [.pointer (some ⟨b, 0, none⟩), vEvt ev v] z (wldP b c link e0 e1 n0 n1 m) fun _ z' A' => WldQ c ⟨c, [e0, e1], [n0, n1], link⟩ b z' A' := by
 obtain ⟨Av, kv, rfl, hkv, hBv, hrv⟩ := hv.form
 have hs : decide ((n0.length : Int) > 0) = false := decide_eq_false (by rw [hn]; simp)
 obtain ⟨kind, who, at_, vv, data⟩ := ev
 dsimp only at *
 subst hw
 subst hk
 refine eQ kyI k66 ?_
 refine vsI.atR 11 rfl fun hN => ?_
 have hN := hN (by omega)
 refine gO ?_
 refine tT ?_; refine callP (in_i 0 0 1 z) rfl rfl ?_; rintro _ _ - ⟨rfl, rfl⟩; refine gO ?_
 simp only [seval, go_sem, show inB 0 0 1 = true from rfl, show inB 1 0 1 = true from rfl]
 refine gO ?_
 ((first | refine ⟨⟨by omega, hN⟩, ?_⟩ | refine ⟨hN, ?_⟩); (try simp only [seval, go_sem]))
 refine gO ?_
 (refine ldF.one _ (RdS.cell 11 rfl rfl) ?_; refine gO ?_)
 repeat (simp only [seval, go_sem, hs]; refine gO ?_)
 refine wF5 ?_
 exact WldQ.mk hR
theorem step_h1 (b : Nat) (c : Cfg) (link : Int) (e0 e1 : End) (n0 n1 : List Msg) (msg : Msg) (rest : List Msg) (m : WM) (ev : Evt) (v : Value) (z : Zc) (hv : By z ev.data v) (hR : WldB z e0 e1 n0 n1 m) (W' : Wld) (hc : IsAt m.E → IsAt m.N → IsAt m.n1.A → ∀ bb, Spec Tryz.prog 105 [.pointer (some ⟨bb, 0, none⟩), .int .i64 1] z (wldP bb c link e0 e1 n0 n1 m) fun _ z' A' => WldQ c W' bb z' A') (hn : n1 = msg :: rest) (hw : ev.who = 1) (hk : ev.kind = 7) :
  Spec Tryz.prog 66 [.pointer (some ⟨b, 0, none⟩), vEvt ev v] z (wldP b c link e0 e1 n0 n1 m) fun _ z' A' => WldQ c W' b z' A' := by
 obtain ⟨Av, kv, rfl, hkv, hBv, hrv⟩ := hv.form
 have hs : decide ((n1.length : Int) > 0) = true := decide_eq_true (by rw [hn]; simp)
 have hp : 0 < n1.length := by rw [hn]; simp
 obtain ⟨kind, who, at_, vv, data⟩ := ev
 dsimp only at *
 subst hw
 subst hk
 refine eQ kyI k66 ?_
 refine vsI.atR 11 rfl fun hN => ?_
 have hN := hN (by omega)
 refine vsI.atR 10 rfl fun hE => ?_
 have hE := hE (by omega)
 refine vsI.atR 50 rfl fun hA => ?_
 have hA := hA hp
 refine gO ?_
 refine tT ?_; refine callP (in_i 1 0 1 z) rfl rfl ?_; rintro _ _ - ⟨rfl, rfl⟩; refine gO ?_
 simp only [seval, go_sem, show inB 0 0 1 = true from rfl, show inB 1 0 1 = true from rfl]
 refine gO ?_
 ((first | refine ⟨⟨by omega, hN⟩, ?_⟩ | refine ⟨hN, ?_⟩); (try simp only [seval, go_sem]))
 refine gO ?_
 (refine ldF.one _ (RdS.cell 11 rfl rfl) ?_; refine gO ?_)
 repeat (simp only [seval, go_sem, hs]; refine gO ?_)
 (refine callT.give 93 0 2003 rfl rfl (fun b3 => ?_)); simp only [seval, go_sem, giveSt, subV, subC, subE, subL]
 refine wC ?_
 refine tT ?_; refine callW 94 (hc hE hN hA b3) rfl rfl rfl rfl ?_; rintro v3 z3 A3 hz3 ⟨f0, f1, g0, g1, m3, link3, hw3, rfl, hR3⟩; refine gO ?_
 refine wO ?_
 refine wF5 ?_
 exact ⟨f0, f1, g0, g1, m3, link3, hw3, rfl, hR3⟩
theorem step_e7_1 (b : Nat) (c : Cfg) (link : Int) (e0 e1 : End) (n0 n1 : List Msg) (m : WM) (ev : Evt) (v : Value) (z : Zc) (hv : By z ev.data v) (hR : WldB z e0 e1 n0 n1 m) (hn : n1 = []) (hw : ev.who = 1) (hk : ev.kind = 7) :
  Spec Tryz.prog 66 [.pointer (some ⟨b, 0, none⟩), vEvt ev v] z (wldP b c link e0 e1 n0 n1 m) fun _ z' A' => WldQ c ⟨c, [e0, e1], [n0, n1], link⟩ b z' A' := by
 obtain ⟨Av, kv, rfl, hkv, hBv, hrv⟩ := hv.form
 have hs : decide ((n1.length : Int) > 0) = false := decide_eq_false (by rw [hn]; simp)
 obtain ⟨kind, who, at_, vv, data⟩ := ev
 dsimp only at *
 subst hw
 subst hk
 refine eQ kyI k66 ?_
 refine vsI.atR 11 rfl fun hN => ?_
 have hN := hN (by omega)
 refine gO ?_
 refine tT ?_; refine callP (in_i 1 0 1 z) rfl rfl ?_; rintro _ _ - ⟨rfl, rfl⟩; refine gO ?_
 simp only [seval, go_sem, show inB 0 0 1 = true from rfl, show inB 1 0 1 = true from rfl]
 refine gO ?_
 ((first | refine ⟨⟨by omega, hN⟩, ?_⟩ | refine ⟨hN, ?_⟩); (try simp only [seval, go_sem]))
 refine gO ?_
 (refine ldF.one _ (RdS.cell 11 rfl rfl) ?_; refine gO ?_)
 repeat (simp only [seval, go_sem, hs]; refine gO ?_)
 refine wF5 ?_
 exact WldQ.mk hR
theorem step_e8_1 (b : Nat) (c : Cfg) (link : Int) (e0 e1 : End) (n0 n1 : List Msg) (m : WM) (ev : Evt) (v : Value) (z : Zc) (hv : By z ev.data v) (hR : WldB z e0 e1 n0 n1 m) (hn : n1 = []) (hw : ev.who = 1) (hk : ev.kind = 8) :
  Spec Tryz.prog 66 [.pointer (some ⟨b, 0, none⟩), vEvt ev v] z (wldP b c link e0 e1 n0 n1 m) fun _ z' A' => WldQ c ⟨c, [e0, e1], [n0, n1], link⟩ b z' A' := by
 obtain ⟨Av, kv, rfl, hkv, hBv, hrv⟩ := hv.form
 have hs : decide ((n1.length : Int) > 0) = false := decide_eq_false (by rw [hn]; simp)
 obtain ⟨kind, who, at_, vv, data⟩ := ev
 dsimp only at *
 subst hw
 subst hk
 refine eQ kyI k66 ?_
 refine vsI.atR 11 rfl fun hN => ?_
 have hN := hN (by omega)
 refine gO ?_
 refine tT ?_; refine callP (in_i 1 0 1 z) rfl rfl ?_; rintro _ _ - ⟨rfl, rfl⟩; refine gO ?_
 simp only [seval, go_sem, show inB 0 0 1 = true from rfl, show inB 1 0 1 = true from rfl]
 refine gO ?_
 ((first | refine ⟨⟨by omega, hN⟩, ?_⟩ | refine ⟨hN, ?_⟩); (try simp only [seval, go_sem]))
 refine gO ?_
 (refine ldF.one _ (RdS.cell 11 rfl rfl) ?_; refine gO ?_)
 repeat (simp only [seval, go_sem, hs]; refine gO ?_)
 refine wF5 ?_
 exact WldQ.mk hR
theorem step_e9_1 (b : Nat) (c : Cfg) (link : Int) (e0 e1 : End) (n0 n1 : List Msg) (m : WM) (ev : Evt) (v : Value) (z : Zc) (hv : By z ev.data v) (hR : WldB z e0 e1 n0 n1 m) (hn : n1 = []) (hw : ev.who = 1) (hk : ev.kind = 9) :
  Spec Tryz.prog 66 [.pointer (some ⟨b, 0, none⟩), vEvt ev v] z (wldP b c link e0 e1 n0 n1 m) fun _ z' A' => WldQ c ⟨c, [e0, e1], [n0, n1], link⟩ b z' A' := by
 obtain ⟨Av, kv, rfl, hkv, hBv, hrv⟩ := hv.form
 have hs : decide ((n1.length : Int) > 0) = false := decide_eq_false (by rw [hn]; simp)
 obtain ⟨kind, who, at_, vv, data⟩ := ev
 dsimp only at *
 subst hw
 subst hk
 refine eQ kyI k66 ?_
 refine vsI.atR 11 rfl fun hN => ?_
 have hN := hN (by omega)
 refine gO ?_
 refine tT ?_; refine callP (in_i 1 0 1 z) rfl rfl ?_; rintro _ _ - ⟨rfl, rfl⟩; refine gO ?_
 simp only [seval, go_sem, show inB 0 0 1 = true from rfl, show inB 1 0 1 = true from rfl]
 refine gO ?_
 ((first | refine ⟨⟨by omega, hN⟩, ?_⟩ | refine ⟨hN, ?_⟩); (try simp only [seval, go_sem]))
 refine gO ?_
 (refine ldF.one _ (RdS.cell 11 rfl rfl) ?_; refine gO ?_)
 repeat (simp only [seval, go_sem, hs]; refine gO ?_)
 refine wF5 ?_
 exact WldQ.mk hR
set_option maxHeartbeats 2000000
theorem step_l0 (b : Nat) (c : Cfg) (link : Int) (e0 e1 : End) (n0 n1 : List Msg) (msg : Msg) (rest : List Msg) (m : WM) (ev : Evt) (v : Value) (z : Zc) (hv : By z ev.data v) (hR : WldB z e0 e1 n0 n1 m) (h30 : n0.length ≤ 30) (hn : n0 = msg :: rest) (hw : ev.who = 0) (hk : ev.kind = 8) :
  Spec Tryz.prog 66 [.pointer (some ⟨b, 0, none⟩), vEvt ev v] z (wldP b c link e0 e1 n0 n1 m) fun _ z' A' => WldQ c (setNet ⟨c, [e0, e1], [n0, n1], link⟩ 0 rest) b z' A' := by
 obtain ⟨Av, kv, rfl, hkv, hBv, hrv⟩ := hv.form
 subst hn
 obtain ⟨E, EC, N, NC, m0, m1, ⟨A0, C0, ms0⟩, ⟨A1, C1, ms1⟩⟩ := m
 have hok := hR.n0.ok
 have hcap := hR.n0.cap
 dsimp only at hok hcap
 cases ms0 with
 | nil => exact hok.elim
 | cons x ms =>
 obtain ⟨a, cb⟩ := x
 obtain ⟨_, hok⟩ := hok
 have hvl := netV_len hok
 have hlr : (msg :: rest).length = rest.length + 1 := rfl
 have hcap1 : rest.length ≤ C0 - 1 := by rw [hlr] at hcap; omega
 have hnv : List.take (rest.length * 2) (List.drop 2 (netV (msg :: rest) ((a, cb) :: ms))) = netV rest ms := List.take_of_length_le (by show (netV rest ms).length ≤ _; omega)
 have hs : decide (((rest.length + 1 : Nat) : Int) > 0) = true := decide_eq_true (by omega)
 obtain ⟨kind, who, at_, vv, data⟩ := ev
 dsimp only at *
 subst hw
 subst hk
 refine eQ kyI k66 ?_
 refine vsI.atR 11 rfl fun hN => ?_
 have hN := hN (by omega)
 refine vsI.atR 40 rfl fun hA => ?_
 have hA := hA (by simp)
 refine gO ?_
 refine tT ?_; refine callP (in_i 0 0 1 z) rfl rfl ?_; rintro _ _ - ⟨rfl, rfl⟩; refine gO ?_
 simp only [seval, go_sem, show inB 0 0 1 = true from rfl, show inB 1 0 1 = true from rfl]
 refine gO ?_
 ((first | refine ⟨⟨by omega, hN⟩, ?_⟩ | refine ⟨hN, ?_⟩); (try simp only [seval, go_sem]))
 refine gO ?_
 (refine ldF.one _ (RdS.cell 11 rfl rfl) ?_; refine gO ?_)
 repeat (simp only [seval, go_sem, hs]; refine gO ?_)
 (refine ldF.one _ (RdS.cell 11 rfl rfl) ?_; refine gO ?_)
 refine ⟨by omega, ?_⟩; refine gO ?_
 (refine stoV_row 11 rfl rfl rfl rfl rfl rfl rfl (by simp) ?_; simp only [seval, go_sem, putV]; refine gO ?_)
 refine FinV.tf (Tf.cut 40 rfl rfl 1 (rest.length + 1) C0 (by omega) (by simp) hcap (by omega) (.inr (.inr hA))) ?_
 simp only [Nat.one_mul, Nat.add_sub_cancel, hnv]
 refine FinV.tf (Tf.split 41 46 rfl rfl rfl) ?_
 dsimp only
 refine wF5 ?_
 exact ⟨e0, e1, rest, n1, ⟨E, EC, N, NC, m0, m1, ⟨cutA A0 C0 1 2, C0 - 1, ms⟩, ⟨A1, C1, ms1⟩⟩, link, rfl, rfl, ⟨hR.e0, hR.e1, ⟨hok, hcap1⟩, hR.n1⟩⟩
theorem step_l1 (b : Nat) (c : Cfg) (link : Int) (e0 e1 : End) (n0 n1 : List Msg) (msg : Msg) (rest : List Msg) (m : WM) (ev : Evt) (v : Value) (z : Zc) (hv : By z ev.data v) (hR : WldB z e0 e1 n0 n1 m) (h30 : n1.length ≤ 30) (hn : n1 = msg :: rest) (hw : ev.who = 1) (hk : ev.kind = 8) :
  Spec Tryz.prog 66 [.pointer (some ⟨b, 0, none⟩), vEvt ev v] z (wldP b c link e0 e1 n0 n1 m) fun _ z' A' => WldQ c (setNet ⟨c, [e0, e1], [n0, n1], link⟩ 1 rest) b z' A' := by
 obtain ⟨Av, kv, rfl, hkv, hBv, hrv⟩ := hv.form
 subst hn
 obtain ⟨E, EC, N, NC, m0, m1, ⟨A0, C0, ms0⟩, ⟨A1, C1, ms1⟩⟩ := m
 have hok := hR.n1.ok
 have hcap := hR.n1.cap
 dsimp only at hok hcap
 cases ms1 with
 | nil => exact hok.elim
 | cons x ms =>
 obtain ⟨a, cb⟩ := x
 obtain ⟨_, hok⟩ := hok
 have hvl := netV_len hok
 have hlr : (msg :: rest).length = rest.length + 1 := rfl
 have hcap1 : rest.length ≤ C1 - 1 := by rw [hlr] at hcap; omega
 have hnv : List.take (rest.length * 2) (List.drop 2 (netV (msg :: rest) ((a, cb) :: ms))) = netV rest ms := List.take_of_length_le (by show (netV rest ms).length ≤ _; omega)
 have hs : decide (((rest.length + 1 : Nat) : Int) > 0) = true := decide_eq_true (by omega)
 obtain ⟨kind, who, at_, vv, data⟩ := ev
 dsimp only at *
 subst hw
 subst hk
 refine eQ kyI k66 ?_
 refine vsI.atR 11 rfl fun hN => ?_
 have hN := hN (by omega)
 refine vsI.atR 50 rfl fun hA => ?_
 have hA := hA (by simp)
 refine gO ?_
 refine tT ?_; refine callP (in_i 1 0 1 z) rfl rfl ?_; rintro _ _ - ⟨rfl, rfl⟩; refine gO ?_
 simp only [seval, go_sem, show inB 0 0 1 = true from rfl, show inB 1 0 1 = true from rfl]
 refine gO ?_
 ((first | refine ⟨⟨by omega, hN⟩, ?_⟩ | refine ⟨hN, ?_⟩); (try simp only [seval, go_sem]))
 refine gO ?_
 (refine ldF.one _ (RdS.cell 11 rfl rfl) ?_; refine gO ?_)
 repeat (simp only [seval, go_sem, hs]; refine gO ?_)
 (refine ldF.one _ (RdS.cell 11 rfl rfl) ?_; refine gO ?_)
 refine ⟨by omega, ?_⟩; refine gO ?_
 (refine stoV_row 11 rfl rfl rfl rfl rfl rfl rfl (by simp) ?_; simp only [seval, go_sem, putV]; refine gO ?_)
 refine FinV.tf (Tf.cut 50 rfl rfl 1 (rest.length + 1) C1 (by omega) (by simp) hcap (by omega) (.inr (.inr hA))) ?_
 simp only [Nat.one_mul, Nat.add_sub_cancel, hnv]
 refine FinV.tf (Tf.split 51 46 rfl rfl rfl) ?_
 dsimp only
 refine wF5 ?_
 exact ⟨e0, e1, n0, rest, ⟨E, EC, N, NC, m0, m1, ⟨A0, C0, ms0⟩, ⟨cutA A1 C1 1 2, C1 - 1, ms⟩⟩, link, rfl, rfl, ⟨hR.e0, hR.e1, hR.n0, ⟨hok, hcap1⟩⟩⟩
theorem step_m0 (b : Nat) (c : Cfg) (link : Int) (e0 e1 : End) (n0 n1 : List Msg) (m : WM) (ev : Evt) (v : Value) (z : Zc) (hv : By z ev.data v) (hR : WldB z e0 e1 n0 n1 m) (hl : 0 ≤ link ∧ link ≤ 1) (hw : ev.who = 0) (hk : ev.kind = 10) :
  Spec Tryz.prog 66 [.pointer (some ⟨b, 0, none⟩), vEvt ev v] z (wldP b c link e0 e1 n0 n1 m) fun _ z' A' => WldQ c ⟨c, [e0, e1], [[], []], 1 - link⟩ b z' A' := by
 obtain ⟨Av, kv, rfl, hkv, hBv, hrv⟩ := hv.form
 obtain ⟨kind, who, at_, vv, data⟩ := ev
 dsimp only at *
 subst hw
 subst hk
 have w1 : IntKind.i64.wrap (1 - link) = 1 - link := wrap_in (by omega) (by omega)
 refine eQ kyI k66 ?_
 refine vsI.atR 11 rfl fun hN => ?_
 have hN := hN (by omega)
 refine gO ?_
 refine tT ?_; refine callP (in_i 0 0 1 z) rfl rfl ?_; rintro _ _ - ⟨rfl, rfl⟩; refine gO ?_
 simp only [seval, go_sem, show inB 0 0 1 = true from rfl, show inB 1 0 1 = true from rfl]
 refine gO ?_
 ((first | refine ⟨⟨by omega, hN⟩, ?_⟩ | refine ⟨hN, ?_⟩); (try simp only [seval, go_sem]))
 refine gO ?_
 (refine ldF.one _ (RdS.cell 11 rfl rfl) ?_; refine gO ?_)
 refine othM.toT (oth_makeSliceB 96 atyN rfl rfl rfl (n := 2) (by omega) (by omega) (fun b9 z0 hz0 => ?_))
 simp only [nets_zero hz0]
 simp only [seval, go_sem]
 refine gO ?_
 simp only [w1]
 refine gO ?_
 refine FinV.tf (Tf.nilRow 60 tyM 2 rfl) ?_
 refine FinV.tf (Tf.nilRow 61 tyM 2 rfl) ?_
 refine FinV.tf (Tf.addE 64 rfl) ?_
 refine FinV.tf (Tf.addE 65 rfl) ?_
 dsimp only
 (refine FinV.give 1000 0 2005 2000 rfl rfl rfl ?_); simp only [seval, go_sem, giveSt, subV, subC, subE, subL]
 (refine FinV.pk 999 [1000, 10, 96, 22, 23, 32, 33, 60, 64, 61, 65] ?_); dsimp only
 refine fP ?_
 exact ⟨e0, e1, [], [], ⟨m.E, m.EC, some ⟨b9, 0, none⟩, 2, m.m0, m.m1, ⟨none, 0, []⟩, ⟨none, 0, []⟩⟩, 1 - link, rfl, rfl, ⟨hR.e0, hR.e1, ⟨trivial, Nat.le_refl _⟩, ⟨trivial, Nat.le_refl _⟩⟩⟩
theorem step_m1 (b : Nat) (c : Cfg) (link : Int) (e0 e1 : End) (n0 n1 : List Msg) (m : WM) (ev : Evt) (v : Value) (z : Zc) (hv : By z ev.data v) (hR : WldB z e0 e1 n0 n1 m) (hl : 0 ≤ link ∧ link ≤ 1) (hw : ev.who = 1) (hk : ev.kind = 10) :
  Spec Tryz.prog 66 [.pointer (some ⟨b, 0, none⟩), vEvt ev v] z (wldP b c link e0 e1 n0 n1 m) fun _ z' A' => WldQ c ⟨c, [e0, e1], [[], []], 1 - link⟩ b z' A' := by
 obtain ⟨Av, kv, rfl, hkv, hBv, hrv⟩ := hv.form
 obtain ⟨kind, who, at_, vv, data⟩ := ev
 dsimp only at *
 subst hw
 subst hk
 have w1 : IntKind.i64.wrap (1 - link) = 1 - link := wrap_in (by omega) (by omega)
 refine eQ kyI k66 ?_
 refine vsI.atR 11 rfl fun hN => ?_
 have hN := hN (by omega)
 refine gO ?_
 refine tT ?_; refine callP (in_i 1 0 1 z) rfl rfl ?_; rintro _ _ - ⟨rfl, rfl⟩; refine gO ?_
 simp only [seval, go_sem, show inB 0 0 1 = true from rfl, show inB 1 0 1 = true from rfl]
 refine gO ?_
 ((first | refine ⟨⟨by omega, hN⟩, ?_⟩ | refine ⟨hN, ?_⟩); (try simp only [seval, go_sem]))
 refine gO ?_
 (refine ldF.one _ (RdS.cell 11 rfl rfl) ?_; refine gO ?_)
 refine othM.toT (oth_makeSliceB 96 atyN rfl rfl rfl (n := 2) (by omega) (by omega) (fun b9 z0 hz0 => ?_))
 simp only [nets_zero hz0]
 simp only [seval, go_sem]
 refine gO ?_
 simp only [w1]
 refine gO ?_
 refine FinV.tf (Tf.nilRow 60 tyM 2 rfl) ?_
 refine FinV.tf (Tf.nilRow 61 tyM 2 rfl) ?_
 refine FinV.tf (Tf.addE 64 rfl) ?_
 refine FinV.tf (Tf.addE 65 rfl) ?_
 dsimp only
 (refine FinV.give 1000 0 2005 2000 rfl rfl rfl ?_); simp only [seval, go_sem, giveSt, subV, subC, subE, subL]
 (refine FinV.pk 999 [1000, 10, 96, 22, 23, 32, 33, 60, 64, 61, 65] ?_); dsimp only
 refine fP ?_
 exact ⟨e0, e1, [], [], ⟨m.E, m.EC, some ⟨b9, 0, none⟩, 2, m.m0, m.m1, ⟨none, 0, []⟩, ⟨none, 0, []⟩⟩, 1 - link, rfl, rfl, ⟨hR.e0, hR.e1, ⟨trivial, Nat.le_refl _⟩, ⟨trivial, Nat.le_refl _⟩⟩⟩
end Go.Proofs.YtllafcmkppmdgaaGreat
