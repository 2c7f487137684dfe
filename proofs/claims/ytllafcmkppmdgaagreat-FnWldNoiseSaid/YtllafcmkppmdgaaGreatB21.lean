/- One hears a frame, of a kind that is not used, by the program. · A step, whatever happens, of either kind, by the reference. · Two ends, whatever happens: what a step turns, and what stays so. Plain lists and numbers. · Codes of functions, group Wild. · What is drawn: a piece, a frame, and what happens, whatever is put in from elsewhere. · What happens to two ends, whatever happens, by the program. -/
import Derived.Test.YtllafcmkppmdgaaGreatB18
import Derived.Test.YtllafcmkppmdgaaGreatB17
import Derived.Test.YtllafcmkppmdgaaGreatB6
import Derived.Test.YtllafcmkppmdgaaGreatB15
import Derived.Test.YtllafcmkppmdgaaGreatB5
import Derived.Test.YtllafcmkppmdgaaGreatProg
import Derived.Test.YtllafcmkppmdgaaGreatB19
import Derived.Test.YtllafcmkppmdgaaGreatB20
namespace Go.Proofs.YtllafcmkppmdgaaGreat
open Go.RowKit
set_option linter.unusedVariables false
set_option linter.unusedSimpArgs false
set_option maxRecDepth 100000
set_option maxHeartbeats 4000000
theorem hear_x0 (b : Nat) (c : Cfg) (link : Int) (e0 e1 : End) (n0 n1 : List Msg) (msg : Msg) (rest : List Msg) (f : Frm) (m : WM) (z : Zc) (hR : WldB z e0 e1 n0 n1 m) (h0 : n0.length ≤ 30) (h1 : n1.length ≤ 30) (h15 : msg.bytes.length ≤ 15) (hn : n0 = msg :: rest) (hf : frmRead msg.bytes = some f) (hkk : c.mode = 1 ∧ (f.kind = 3 ∨ f.kind = 4) ∨ c.mode = 2 ∧ (f.kind = 1 ∨ f.kind = 2)) (hE : IsAt m.E) (hN : IsAt m.N) (hA : IsAt m.n0.A) :
  Spec Tryz.prog 105 [.pointer (some ⟨b, 0, none⟩), .int .i64 0] z (wldP b c link e0 e1 n0 n1 m) fun _ z' A' => WldQ c ⟨c, [e0, e1], [n0, n1].set 0 rest, link⟩ b z' A' := by
 subst hn
 obtain ⟨E, EC, N, NC, m0, m1, ⟨A0, C0, ms0⟩, ⟨A1, C1, ms1⟩⟩ := m
 obtain ⟨hR0, hR1, hRn0, hRn1⟩ := hR
 have hno := hRn0.ok
 have hcap := hRn0.cap
 dsimp only at hno hcap hR0 hR1 hRn0 hRn1 hE hN hA
 cases ms0 with
 | nil => exact hno.elim
 | cons x ms =>
 obtain ⟨a, cb⟩ := x
 obtain ⟨⟨hb1, hb2⟩, hno⟩ := hno
 have hvl := netV_len hno
 have hlr : (msg :: rest).length = rest.length + 1 := rfl
 have hnv : List.take (rest.length * 2) (List.drop 2 (netV (msg :: rest) ((a, cb) :: ms))) = netV rest ms := List.take_of_length_le (by show (netV rest ms).length ≤ _; omega)
 have hcap1 : rest.length ≤ C0 - 1 := by rw [hlr] at hcap; omega
 obtain ⟨kind, seq, ack, poll, fin, say, seg, len, data⟩ := f
 obtain ⟨mode, win, mps, mtu, tri⟩ := c
 dsimp only at hkk
 rcases hkk with ⟨rfl, rfl | rfl⟩ | ⟨rfl, rfl | rfl⟩
 all_goals
  refine eQ kyI k105 ?_
  ((first | refine ⟨⟨by omega, hN⟩, ?_⟩ | refine ⟨hN, ?_⟩); (try simp only [seval, go_sem]))
  (refine ldF.one _ (RdS.cell 11 rfl rfl) ?_; refine gO ?_)
  refine ⟨⟨by simp, hA⟩, ?_⟩
  refine gO ?_
  (refine ldF.one _ (RdS.cell 40 rfl rfl) ?_; refine gO ?_)
  refine callT.tf (Tf.split 41 46 rfl rfl rfl) ?_
  dsimp only
  refine callT.frzA 46 rfl (RdA.bys hb1 hb2) (fun z4 hz4 hby => ?_)
  dsimp only at hz4
  simp only [seval, go_sem]
  have hc := frmRead_i msg.bytes _ z4 hby (by omega)
  simp only [hf] at hc
  refine tT ?_; refine callP (hc) rfl rfl ?_; rintro u z5 hz5 ⟨x, rfl, hx⟩; (try simp only [seval, go_sem])
  obtain ⟨Ax, kx, rfl, hkx, hBx, hrx⟩ := hx.form
  try dsimp only at hx
  refine gO ?_
  ((first | refine ⟨⟨by omega, hN⟩, ?_⟩ | refine ⟨hN, ?_⟩); (try simp only [seval, go_sem]))
  (refine ldF.one _ (RdS.cell 11 rfl rfl) ?_; refine gO ?_)
  refine ⟨by omega, ?_⟩; refine gO ?_
  ((first | refine ⟨⟨by omega, hN⟩, ?_⟩ | refine ⟨hN, ?_⟩); (try simp only [seval, go_sem]))
  (refine stoV_row 11 rfl rfl rfl rfl rfl rfl rfl (by simp) ?_; simp only [seval, go_sem, putV]; refine gO ?_)
  ((first | refine ⟨⟨by omega, hE⟩, ?_⟩ | refine ⟨hE, ?_⟩); (try simp only [seval, go_sem]))
  refine gO ?_
  have hz05 := Zc.trans' hz4 hz5
  refine loopV.tf (Tf.cut 40 rfl rfl 1 (rest.length + 1) C0 (by omega) (by simp) hcap (by omega) (.inr (.inr hA))) ?_
  simp only [Nat.one_mul, Nat.add_sub_cancel, hnv]
  refine loopV.rounds 1 ?_
  rw [roundsV_succ]
  refine gO ?_
  try simp only [seval, go_sem, show decide ((0 : Int) < ((0 : Nat) : Int)) = false from rfl]
  refine gO ?_
  simp only [seval, go_sem, roundK_exit]
  refine gO ?_
  have hR8 : WldB z5 e0 e1 rest n1 ⟨E, EC, N, NC, m0, m1, ⟨cutA A0 C0 1 2, C0 - 1, ms⟩, ⟨A1, C1, ms1⟩⟩ := ⟨hR0.mono hz05, hR1.mono hz05, ⟨hno, hcap1⟩, hRn1⟩
  (refine callT.give 93 0 2003 rfl rfl (fun b3 => ?_)); simp only [seval, go_sem, giveSt, subV, subC, subE, subL]
  refine wC ?_
  refine tT ?_; refine callW 94 (say_p0 b3 ⟨_, win, mps, mtu, tri⟩ link e0 e1 rest n1 ⟨E, EC, N, NC, m0, m1, ⟨cutA A0 C0 1 2, C0 - 1, ms⟩, ⟨A1, C1, ms1⟩⟩ [] (.slice none 0 0) z5 hR8 (Sl.nil _ _ _) (by simp) (by simp) (by simp at h0; omega) (by skip; omega)) rfl rfl rfl rfl ?_; rintro v3 z3 A3 hz3 ⟨f0, f1, g0, g1, m3, link3, hw3, rfl, hR9⟩; refine gO ?_
  refine wO ?_
  refine wF5 ?_
  exact ⟨f0, f1, g0, g1, m3, link3, hw3, rfl, hR9⟩
theorem hear_x1 (b : Nat) (c : Cfg) (link : Int) (e0 e1 : End) (n0 n1 : List Msg) (msg : Msg) (rest : List Msg) (f : Frm) (m : WM) (z : Zc) (hR : WldB z e0 e1 n0 n1 m) (h0 : n0.length ≤ 30) (h1 : n1.length ≤ 30) (h15 : msg.bytes.length ≤ 15) (hn : n1 = msg :: rest) (hf : frmRead msg.bytes = some f) (hkk : c.mode = 1 ∧ (f.kind = 3 ∨ f.kind = 4) ∨ c.mode = 2 ∧ (f.kind = 1 ∨ f.kind = 2)) (hE : IsAt m.E) (hN : IsAt m.N) (hA : IsAt m.n1.A) :
  Spec Tryz.prog 105 [.pointer (some ⟨b, 0, none⟩), .int .i64 1] z (wldP b c link e0 e1 n0 n1 m) fun _ z' A' => WldQ c ⟨c, [e0, e1], [n0, n1].set 1 rest, link⟩ b z' A' := by
 subst hn
 obtain ⟨E, EC, N, NC, m0, m1, ⟨A0, C0, ms0⟩, ⟨A1, C1, ms1⟩⟩ := m
 obtain ⟨hR0, hR1, hRn0, hRn1⟩ := hR
 have hno := hRn1.ok
 have hcap := hRn1.cap
 dsimp only at hno hcap hR0 hR1 hRn0 hRn1 hE hN hA
 cases ms1 with
 | nil => exact hno.elim
 | cons x ms =>
 obtain ⟨a, cb⟩ := x
 obtain ⟨⟨hb1, hb2⟩, hno⟩ := hno
 have hvl := netV_len hno
 have hlr : (msg :: rest).length = rest.length + 1 := rfl
 have hnv : List.take (rest.length * 2) (List.drop 2 (netV (msg :: rest) ((a, cb) :: ms))) = netV rest ms := List.take_of_length_le (by show (netV rest ms).length ≤ _; omega)
 have hcap1 : rest.length ≤ C1 - 1 := by rw [hlr] at hcap; omega
 obtain ⟨kind, seq, ack, poll, fin, say, seg, len, data⟩ := f
 obtain ⟨mode, win, mps, mtu, tri⟩ := c
 dsimp only at hkk
 rcases hkk with ⟨rfl, rfl | rfl⟩ | ⟨rfl, rfl | rfl⟩
 all_goals
  refine eQ kyI k105 ?_
  ((first | refine ⟨⟨by omega, hN⟩, ?_⟩ | refine ⟨hN, ?_⟩); (try simp only [seval, go_sem]))
  (refine ldF.one _ (RdS.cell 11 rfl rfl) ?_; refine gO ?_)
  refine ⟨⟨by simp, hA⟩, ?_⟩
  refine gO ?_
  (refine ldF.one _ (RdS.cell 50 rfl rfl) ?_; refine gO ?_)
  refine callT.tf (Tf.split 51 46 rfl rfl rfl) ?_
  dsimp only
  refine callT.frzA 46 rfl (RdA.bys hb1 hb2) (fun z4 hz4 hby => ?_)
  dsimp only at hz4
  simp only [seval, go_sem]
  have hc := frmRead_i msg.bytes _ z4 hby (by omega)
  simp only [hf] at hc
  refine tT ?_; refine callP (hc) rfl rfl ?_; rintro u z5 hz5 ⟨x, rfl, hx⟩; (try simp only [seval, go_sem])
  obtain ⟨Ax, kx, rfl, hkx, hBx, hrx⟩ := hx.form
  try dsimp only at hx
  refine gO ?_
  ((first | refine ⟨⟨by omega, hN⟩, ?_⟩ | refine ⟨hN, ?_⟩); (try simp only [seval, go_sem]))
  (refine ldF.one _ (RdS.cell 11 rfl rfl) ?_; refine gO ?_)
  refine ⟨by omega, ?_⟩; refine gO ?_
  ((first | refine ⟨⟨by omega, hN⟩, ?_⟩ | refine ⟨hN, ?_⟩); (try simp only [seval, go_sem]))
  (refine stoV_row 11 rfl rfl rfl rfl rfl rfl rfl (by simp) ?_; simp only [seval, go_sem, putV]; refine gO ?_)
  ((first | refine ⟨⟨by omega, hE⟩, ?_⟩ | refine ⟨hE, ?_⟩); (try simp only [seval, go_sem]))
  refine gO ?_
  have hz05 := Zc.trans' hz4 hz5
  refine loopV.tf (Tf.cut 50 rfl rfl 1 (rest.length + 1) C1 (by omega) (by simp) hcap (by omega) (.inr (.inr hA))) ?_
  simp only [Nat.one_mul, Nat.add_sub_cancel, hnv]
  refine loopV.rounds 1 ?_
  rw [roundsV_succ]
  refine gO ?_
  try simp only [seval, go_sem, show decide ((0 : Int) < ((0 : Nat) : Int)) = false from rfl]
  refine gO ?_
  simp only [seval, go_sem, roundK_exit]
  refine gO ?_
  have hR8 : WldB z5 e0 e1 n0 rest ⟨E, EC, N, NC, m0, m1, ⟨A0, C0, ms0⟩, ⟨cutA A1 C1 1 2, C1 - 1, ms⟩⟩ := ⟨hR0.mono hz05, hR1.mono hz05, hRn0, ⟨hno, hcap1⟩⟩
  (refine callT.give 93 0 2003 rfl rfl (fun b3 => ?_)); simp only [seval, go_sem, giveSt, subV, subC, subE, subL]
  refine wC ?_
  refine tT ?_; refine callW 94 (say_p1 b3 ⟨_, win, mps, mtu, tri⟩ link e0 e1 n0 rest ⟨E, EC, N, NC, m0, m1, ⟨A0, C0, ms0⟩, ⟨cutA A1 C1 1 2, C1 - 1, ms⟩⟩ [] (.slice none 0 0) z5 hR8 (Sl.nil _ _ _) (by simp) (by simp) (by skip; omega) (by simp at h1; omega)) rfl rfl rfl rfl ?_; rintro v3 z3 A3 hz3 ⟨f0, f1, g0, g1, m3, link3, hw3, rfl, hR9⟩; refine gO ?_
  refine wO ?_
  refine wF5 ?_
  exact ⟨f0, f1, g0, g1, m3, link3, hw3, rfl, hR9⟩
set_option maxHeartbeats 1000000
theorem l9step_w0 (c : Cfg) (link : Int) (e0 e1 : End) (n0 n1 : List Msg) (m : WM) (ev : Evt) (v : Value) (z : Zc) (hv : By z ev.data v) (hd : ev.data.length ≤ 100000) (hR : WldR z e0 e1 n0 n1 m) (hW : WldI ⟨c, [e0, e1], [n0, n1], link⟩) (hw : ev.who = 0) (hk : 1 ≤ ev.kind ∧ ev.kind ≤ 11) :
  Spec Tryz.prog 63 [wldV c link m, vEvt ev v] z (wldA e0 e1 n0 n1 m) (WldH c (step true ⟨c, [e0, e1], [n0, n1], link⟩ ev)) := by
 have hl : 0 ≤ link ∧ link ≤ 1 := hW.link
 have hN : NetI n0 := hW.net 0 (by omega)
 have hm : c.mode = 1 ∨ c.mode = 2 := hW.cfg.mode
 by_cases h8 : ev.kind ≤ 8
 ·rcases hm with hm | hm
  ·exact l9step_n0 c link e0 e1 n0 n1 m ev v z hv hd hR hW hm hw ⟨hk.1, h8⟩
  ·exact l9step_c0 c link e0 e1 n0 n1 m ev v z hv hd hR hW hm hw ⟨hk.1, h8⟩
 ·have : ev.kind = 9 ∨ ev.kind = 10 ∨ ev.kind = 11 := by omega
  rcases this with h | h | h
  ·exact l9step_b0 c link e0 e1 n0 n1 m ev v z hv hR hW hw h
  ·rw [step_move0 c link e0 e1 n0 n1 ev h hw]
   exact l9move0 c link e0 e1 n0 n1 m ev v z hv hR hl hw h
  ·rw [step_inj0 c link e0 e1 n0 n1 ev h hw]
   exact l9inj0 c link e0 e1 n0 n1 m ev v z hv (by omega) hR hN.1 hw h
theorem l9step_w1 (c : Cfg) (link : Int) (e0 e1 : End) (n0 n1 : List Msg) (m : WM) (ev : Evt) (v : Value) (z : Zc) (hv : By z ev.data v) (hd : ev.data.length ≤ 100000) (hR : WldR z e0 e1 n0 n1 m) (hW : WldI ⟨c, [e0, e1], [n0, n1], link⟩) (hw : ev.who = 1) (hk : 1 ≤ ev.kind ∧ ev.kind ≤ 11) :
  Spec Tryz.prog 63 [wldV c link m, vEvt ev v] z (wldA e0 e1 n0 n1 m) (WldH c (step true ⟨c, [e0, e1], [n0, n1], link⟩ ev)) := by
 have hl : 0 ≤ link ∧ link ≤ 1 := hW.link
 have hN : NetI n1 := hW.net 1 (by omega)
 have hm : c.mode = 1 ∨ c.mode = 2 := hW.cfg.mode
 by_cases h8 : ev.kind ≤ 8
 ·rcases hm with hm | hm
  ·exact l9step_n1 c link e0 e1 n0 n1 m ev v z hv hd hR hW hm hw ⟨hk.1, h8⟩
  ·exact l9step_c1 c link e0 e1 n0 n1 m ev v z hv hd hR hW hm hw ⟨hk.1, h8⟩
 ·have : ev.kind = 9 ∨ ev.kind = 10 ∨ ev.kind = 11 := by omega
  rcases this with h | h | h
  ·exact l9step_b1 c link e0 e1 n0 n1 m ev v z hv hR hW hw h
  ·rw [step_move1 c link e0 e1 n0 n1 ev h hw]
   exact l9move1 c link e0 e1 n0 n1 m ev v z hv hR hl hw h
  ·rw [step_inj1 c link e0 e1 n0 n1 ev h hw]
   exact l9inj1 c link e0 e1 n0 n1 m ev v z hv (by omega) hR hN.1 hw h
theorem stepE_w (M : Int) : StepE M 11 := fun c link e0 e1 n0 n1 m ev v z h1 h2 h3 h4 h5 h6 h7 => h6.elim (fun h6 => l9step_w0 c link e0 e1 n0 n1 m ev v z h1 h2 h3 h4 h6 h7) fun h6 => l9step_w1 c link e0 e1 n0 n1 m ev v z h1 h2 h3 h4 h6 h7
set_option maxRecDepth 512
set_option maxHeartbeats 200000
inductive SE (g : Bool) (w : Wld) (e : Evt) (i : Nat) : End → Prop
 | same : SE g w e i (endAt w i)
 | put : w.cfg.mode = 1 → SE g w e i { endAt w i with tx := (txPut w.cfg (endAt w i).tx e.data).1, put := if (txPut w.cfg (endAt w i).tx e.data).2 then (endAt w i).put ++ [e.data] else (endAt w i).put }
 | send : w.cfg.mode = 1 → SE g w e i { endAt w i with tx := (txSend g w.cfg (endAt w i).tx (endAt w i).rx.expect).1 }
 | tick : w.cfg.mode = 1 → SE g w e i { endAt w i with tx := (txTick w.cfg (endAt w i).tx (endAt w i).rx.expect (endAt w i).rx.busy).1 }
 | busy : w.cfg.mode = 1 → SE g w e i { endAt w i with rx := (rxBusy (endAt w i).rx (decide (e.v = 1))).1 }
 | hear (f : Frm) : w.cfg.mode = 1 → frmOk f = true → (f.kind = 1 ∨ f.kind = 2) → SE g w e i { endAt w i with tx := txHear (endAt w i).tx f, rx := (rxHear w.cfg (endAt w i).rx f).1, got := tell (endAt w i).got (rxHear w.cfg (endAt w i).rx f).2.1 }
 | cput : w.cfg.mode ≠ 1 → SE g w e i { endAt w i with ctx := (crdPut w.cfg (endAt w i).ctx e.data).1, put := if (crdPut w.cfg (endAt w i).ctx e.data).2 then (endAt w i).put ++ [e.data] else (endAt w i).put }
 | csend : w.cfg.mode ≠ 1 → SE g w e i { endAt w i with ctx := (crdSend (endAt w i).ctx).1 }
 | cgrant : w.cfg.mode ≠ 1 → SE g w e i { endAt w i with crx := (crdGrant (endAt w i).crx).1 }
 | ctake (n : Int) : w.cfg.mode ≠ 1 → SE g w e i { endAt w i with ctx := crdTake (endAt w i).ctx n }
 | chear (f : Frm) : w.cfg.mode ≠ 1 → frmOk f = true → f.kind = 3 → SE g w e i { endAt w i with crx := (crdHear w.cfg (endAt w i).crx f).1, got := tell (endAt w i).got (crdHear w.cfg (endAt w i).crx f).2 }
theorem step_se {g : Bool} {w : Wld} (h : WldI w) (e : Evt) {i : Nat} (hi : i < 2) : SE g w e i (endAt (step g w e) i) := by
 by_cases hwi : e.who.toNat = i
 ·have hs : ∀ (v : Wld) (x : End), v.ends.length = 2 → endAt (setEnd v e.who.toNat x) i = x := fun v x hl => by rw [endAt_setEnd hl (by omega), if_pos hwi.symm]
  subst hwi
  unfold step
  split
  ·exact .same
  ·simp only
   split
   ·unfold hear1
    split
    ·exact .same
    ·rename_i m l hn
     split
     ·exact .same
     ·rename_i f hf
      have hok := (frmRead_ok hf).1
      unfold hearF
      simp only
      split
      ·rename_i hm
       split
       ·rename_i hk2
        rw [endAt_says, hs _ _ (by exact h.le)]
        exact .hear f hm hok hk2
       ·exact .same
      ·rename_i hm
       split
       ·rw [hs _ _ (by exact h.le)]
        exact .ctake _ hm
       ·split
        ·rename_i hk
         rw [hs _ _ (by exact h.le)]
         exact .chear f hm hok hk
        ·exact .same
   ·split
    ·exact .same
    ·split
     ·split <;> exact .same
     ·split
      ·exact .same
      ·split
       ·split <;> exact .same
       ·split
        ·rename_i hm
         unfold byNum
         simp only
         split
         ·split
          ·rw [hs _ _ (by exact h.le)]; exact .put hm
          ·exact .same
         ·split
          ·split
           ·rw [endAt_sayO, hs _ _ (by exact h.le)]; exact .send hm
           ·exact .same
          ·split
           ·rw [endAt_sayO, hs _ _ (by exact h.le)]; exact .tick hm
           ·split
            ·rw [endAt_says, hs _ _ (by exact h.le)]; exact .busy hm
            ·split
             ·split
              ·exact .same
              ·rw [endAt_say1]; exact .same
             ·exact .same
        ·rename_i hm
         unfold forCrd
         simp only
         split
         ·split
          ·rw [hs _ _ (by exact h.le)]; exact .cput hm
          ·exact .same
         ·split
          ·split
           ·rw [endAt_sayO, hs _ _ (by exact h.le)]; exact .csend hm
           ·exact .same
          ·split
           ·split
            ·rw [endAt_sayO, hs _ _ (by exact h.le)]; exact .cgrant hm
            ·exact .same
           ·exact .same
 ·rw [step_other h e hwi]; exact .same
theorem step_cfg (g : Bool) (w : Wld) (e : Evt) : (step g w e).cfg = w.cfg := by
 have h1 : ∀ (v : Wld) (k : Nat) (f : Frm), (say1 v k f).cfg = v.cfg := fun v k f => by unfold say1; split <;> rfl
 have h2 : ∀ (l : List Frm) (v : Wld) (k : Nat), (says v k l).cfg = v.cfg := fun l => by
  induction l with
  | nil => intro v k; rfl
  | cons f l ih => intro v k; show (says (say1 v k f) k l).cfg = _; rw [ih, h1]
 have h3 : ∀ (v : Wld) (k : Nat) (o : Option Frm), (sayO v k o).cfg = v.cfg := fun v k o => by cases o with | none => rfl | some f => exact h1 v k f
 unfold step
 split
 ·rfl
 ·simp only
  split
  ·unfold hear1
   split
   ·rfl
   ·split
    ·rfl
    ·unfold hearF
     simp only
     repeat' split
     all_goals first | rfl | (rw [h2]; rfl)
  ·split
   ·rfl
   ·split
    ·split <;> rfl
    ·split
     ·rfl
     ·split
      ·split <;> rfl
      ·split
       ·unfold byNum
        simp only
        repeat' split
        all_goals first | rfl | (rw [h2]; rfl) | (rw [h3]; rfl) | (rw [h1])
       ·unfold forCrd
        simp only
        repeat' split
        all_goals first | rfl | (rw [h3]; rfl)
theorem frm3w {f : Frm} (h : frmOk f = true) (hk : f.kind = 3) : pieceOk f.seg f.len f.data.length = true := by
 unfold frmOk at h
 rw [if_neg (by omega), if_neg (by omega), if_pos hk] at h
 simp only [Bool.and_eq_true] at h
 exact h.2
/-! What is told. -/
theorem tell_mem {got l : List (List Int)} {m : List Int} (h : m ∈ tell got l) : m ∈ got ∨ m ∈ l := by
 unfold tell at h
 induction l generalizing got with
 | nil => exact .inl h
 | cons a l ih =>
  rw [List.foldl_cons] at h
  rcases ih h with h | h
  ·split at h
   ·rcases List.mem_append.1 h with h | h
    ·exact .inl h
    ·exact .inr (by rw [List.mem_singleton.1 h]; exact List.mem_cons_self)
   ·exact .inl h
  ·exact .inr (List.mem_cons_of_mem _ h)
theorem tell_at1 {got l : List (List Int)} (h : l.length ≤ 1) : tell got l = got ∨ ∃ m, tell got l = got ++ [m] := by
 match l, h with
 | [], _ => exact .inl rfl
 | [m], _ =>
  unfold tell
  rw [List.foldl_cons, List.foldl_nil]
  split
  ·exact .inr ⟨m, rfl⟩
  ·exact .inl rfl
theorem segPut_len {j : Join} {p : Part} {M : Int} (h0 : 0 ≤ M) (hj : j.len ≤ M) (hp : p.len ≤ M) : (segPut j p).1.len ≤ M := by
 unfold segPut
 split
 ·exact h0
 ·split
  ·exact hp
  ·split
   ·exact hj
   ·split <;> exact h0
theorem segPut_msg {j : Join} {p : Part} {M : Int} (h : JoinI j) (hk : partOk p = true) (hj : j.len ≤ M) (hp : p.len ≤ M) (h2 : (segPut j p).2.2 = 2) : ((segPut j p).2.1.length : Int) ≤ M := by
 obtain ⟨_, h3, h4⟩ := (segPut_ok h hk).2 h2
 have hk' := hk
 unfold partOk at hk'
 rw [pieceOk_iff] at hk'
 rcases h4 with h4 | h4
 ·have := h3 h4
  omega
 ·omega
structure EndW (c : Cfg) (e : End) : Prop where
 out : e.crx.out ≤ 6
 asks : e.tx.asks = true → 1 ≤ e.tx.tries
 put : ∀ m ∈ e.put, (m.length : Int) ≤ c.mtu
 got : ∀ m ∈ e.got, (m.length : Int) ≤ c.mtu
 rj : e.rx.join.len ≤ c.mtu
 kj : e.crx.join.len ≤ c.mtu
 m1 : c.mode = 1 → e.ctx = ctx0 ∧ e.crx = crx0
 m2 : c.mode ≠ 1 → e.tx = tx0 ∧ e.rx = rx0
theorem EndW.zero {c : Cfg} (h : CfgI c) : EndW c end0 := by
 have := h.mtu
 exact ⟨by simp [end0, crx0], by simp [end0, tx0], by simp [end0], by simp [end0], by simp [end0, rx0, join0]; omega, by simp [end0, crx0, join0]; omega, fun _ => ⟨rfl, rfl⟩, fun _ => ⟨rfl, rfl⟩⟩
theorem putW {c : Cfg} {l : List (List Int)} {d : List Int} {b : Bool} (h : ∀ m ∈ l, (m.length : Int) ≤ c.mtu) (hb : b = true → (d.length : Int) ≤ c.mtu) : ∀ m ∈ (if b then l ++ [d] else l), (m.length : Int) ≤ c.mtu := by
 intro m hm
 split at hm
 ·rename_i hbt
  rcases List.mem_append.1 hm with hm | hm
  ·exact h m hm
  ·rw [List.mem_singleton.1 hm]; exact hb hbt
 ·exact h m hm
theorem rxTake_w {c : Cfg} {r : Rx} {f : Frm} (h : RxI r) (hc : CfgI c) (hp : pieceOk f.seg f.len f.data.length = true) (hj : r.join.len ≤ c.mtu) : (rxTake c r f).1.join.len ≤ c.mtu ∧ (∀ m ∈ (rxTake c r f).2, (m.length : Int) ≤ c.mtu) ∧ (rxTake c r f).2.length ≤ 1 := by
 have hm := hc.mtu
 unfold rxTake
 split
 ·exact ⟨hj, by simp, by simp⟩
 ·rename_i h1
  have hl : f.len ≤ c.mtu := by omega
  have hq := segPut_len (j := r.join) (p := ⟨f.seg, f.len, f.data⟩) (M := c.mtu) (by omega) hj hl
  simp only
  split
  ·exact ⟨hq, by simp, by simp⟩
  ·refine ⟨hq, ?_, ?_⟩
   ·split
    ·rename_i h2
     intro m hm
     rw [List.mem_singleton.1 hm]
     exact segPut_msg h.join hp hj hl h2
    ·simp
   ·split <;> simp
theorem rxHear_w {c : Cfg} {r : Rx} {f : Frm} (h : RxI r) (hc : CfgI c) (hk : frmOk f = true) (h12 : f.kind = 1 ∨ f.kind = 2) (hj : r.join.len ≤ c.mtu) : (rxHear c r f).1.join.len ≤ c.mtu ∧ (∀ m ∈ (rxHear c r f).2.1, (m.length : Int) ≤ c.mtu) ∧ (rxHear c r f).2.1.length ≤ 1 ∧ (r.dead = true → (rxHear c r f).1 = r ∧ (rxHear c r f).2.1 = []) := by
 unfold rxHear
 split
 ·exact ⟨hj, by simp, by simp, fun _ => ⟨rfl, rfl⟩⟩
 ·rename_i hd
  split
  ·split <;> exact ⟨hj, by simp, by simp, fun h => absurd h hd⟩
  ·rename_i h2
   split
   ·exact ⟨hj, by simp, by simp, fun h => absurd h hd⟩
   ·split
    ·have hp : pieceOk f.seg f.len f.data.length = true := by
      unfold frmOk at hk
      rw [if_pos (by omega)] at hk
      simp only [Bool.and_eq_true] at hk
      exact hk.2
     obtain ⟨a, b, c⟩ := rxTake_w h hc hp hj
     exact ⟨a, b, c, fun h => absurd h hd⟩
    ·split <;> exact ⟨hj, by simp, by simp, fun h => absurd h hd⟩
theorem crdHear_w {c : Cfg} {r : CRx} {f : Frm} (h : CRxI r) (hc : CfgI c) (hk : frmOk f = true) (h3 : f.kind = 3) (hj : r.join.len ≤ c.mtu) (ho : r.out ≤ 6) : (crdHear c r f).1.join.len ≤ c.mtu ∧ (∀ m ∈ (crdHear c r f).2, (m.length : Int) ≤ c.mtu) ∧ (crdHear c r f).2.length ≤ 1 ∧ (crdHear c r f).1.out ≤ 6 ∧ (r.dead = true → crdHear c r f = (r, [])) := by
 have hm := hc.mtu
 have hp : pieceOk f.seg f.len f.data.length = true := frm3w hk h3
 unfold crdHear
 split
 ·exact ⟨hj, by simp, by simp, ho, fun _ => rfl⟩
 ·rename_i hd
  split
  ·exact ⟨hj, by simp, by simp, ho, fun h => absurd h hd⟩
  ·rename_i h1
   have hl : f.len ≤ c.mtu := by omega
   have hq := segPut_len (j := r.join) (p := ⟨f.seg, f.len, f.data⟩) (M := c.mtu) (by omega) hj hl
   simp only
   split
   ·exact ⟨hq, by simp, by simp, by simp only; omega, fun h => absurd h hd⟩
   ·refine ⟨hq, ?_, ?_, by simp only; omega, fun h => absurd h hd⟩
    ·split
     ·rename_i h2
      intro m hm
      rw [List.mem_singleton.1 hm]
      exact segPut_msg h.2 hp hj hl h2
     ·simp
    ·split <;> simp
theorem txSend_asks {g : Bool} {c : Cfg} {t : Tx} {a : Int} : (txSend g c t a).1.asks = t.asks ∧ (txSend g c t a).1.tries = t.tries := by
 unfold txSend txMove
 split
 ·exact ⟨rfl, rfl⟩
 ·simp only
  split <;> exact ⟨rfl, rfl⟩
theorem txPut_asks {c : Cfg} {t : Tx} {a : List Int} : (txPut c t a).1.asks = t.asks ∧ (txPut c t a).1.tries = t.tries := by
 unfold txPut
 split
 ·exact ⟨rfl, rfl⟩
 ·split <;> exact ⟨rfl, rfl⟩
theorem se_W {g : Bool} {w : Wld} {e : Evt} {i : Nat} {x : End} (h : WldI w) (hi : i < 2) (hw : EndW w.cfg (endAt w i)) (hs : SE g w e i x) : EndW w.cfg x := by
 have hI := h.ends i hi
 have hc := h.cfg
 cases hs with
 | same => exact hw
 | put hm => exact { hw with asks := by simp only [txPut_asks]; exact hw.asks, put := putW hw.put fun hb => (txPut_yes hb).1, m2 := fun h => absurd hm h }
 | send hm => exact { hw with asks := by simp only [txSend_asks]; exact hw.asks, m2 := fun h => absurd hm h }
 | tick hm =>
  refine { hw with asks := ?_, m2 := fun h => absurd hm h }
  have := hI.tx.tries
  simp only
  unfold txTick
  split
  ·exact hw.asks
  ·split
   ·exact hw.asks
   ·intro _; simp only; omega
 | busy hm => exact { hw with rj := by simp only [rxBusy]; split <;> exact hw.rj, m2 := fun h => absurd hm h }
 | hear f hm hk h12 =>
  obtain ⟨a, b, _, _⟩ := rxHear_w hI.rx hc hk h12 hw.rj
  refine { hw with asks := ?_, got := fun m hmm => (tell_mem hmm).elim (hw.got m) (b m), rj := a, m2 := fun h => absurd hm h }
  simp only
  unfold txHear
  split
  ·exact hw.asks
  ·split
   ·exact hw.asks
   ·simp only [Bool.and_eq_true, Bool.not_eq_true']
    rintro ⟨h1, h2⟩
    rw [if_neg (by simp [h2])]
    exact hw.asks h1
 | cput hm => exact { hw with put := putW hw.put fun hb => (crdPut_yes hb).1, m1 := fun h => absurd h hm }
 | csend hm => exact { hw with m1 := fun h => absurd h hm }
 | cgrant hm =>
  refine { hw with out := ?_, kj := ?_, m1 := fun h => absurd h hm }
  ·simp only [crdGrant]; split
   ·exact hw.out
   ·simp
  ·simp only [crdGrant]; split <;> exact hw.kj
 | ctake n hm => exact { hw with m1 := fun h => absurd h hm }
 | chear f hm hk h3 =>
  obtain ⟨a, b, _, d, _⟩ := crdHear_w hI.crx hc hk h3 hw.kj hw.out
  exact { hw with out := d, got := fun m hmm => (tell_mem hmm).elim (hw.got m) (b m), kj := a, m1 := fun h => absurd h hm }
structure WldW (w : Wld) : Prop where
 ok : WldI w
 ends : ∀ i, i < 2 → EndW w.cfg (endAt w i)
theorem wldNew_W {c : Cfg} (h : CfgI c) : WldW (wldNew c) := by
 refine ⟨wldNew_I h, ?_⟩
 unfold wldNew
 rw [if_pos (cfgOk_iff.mpr h)]
 intro i hi
 have : i = 0 ∨ i = 1 := by omega
 rcases this with rfl | rfl <;> exact EndW.zero h
theorem step_W {g : Bool} {w : Wld} (h : WldW w) (e : Evt) : WldW (step g w e) :=
 ⟨step_I h.ok e, fun i hi => by rw [step_cfg]; exact se_W h.ok hi (h.ends i hi) (step_se h.ok e hi)⟩
theorem run_W {g : Bool} {w : Wld} (h : WldW w) (l : List Evt) : WldW (run g w l) := by
 unfold run
 induction l generalizing w with
 | nil => exact h
 | cons e l ih => exact ih (step_W h e)
theorem se_grows {g : Bool} {w : Wld} {e : Evt} {i : Nat} {x : End} (h : WldI w) (hi : i < 2) (hw : EndW w.cfg (endAt w i)) (hs : SE g w e i x) : (x.put = (endAt w i).put ∨ ∃ m, x.put = (endAt w i).put ++ [m]) ∧ (x.got = (endAt w i).got ∨ ∃ m, x.got = (endAt w i).got ++ [m]) := by
 have hI := h.ends i hi
 have hc := h.cfg
 cases hs with
 | put hm => exact ⟨by simp only; split; exact .inr ⟨_, rfl⟩; exact .inl rfl, .inl rfl⟩
 | cput hm => exact ⟨by simp only; split; exact .inr ⟨_, rfl⟩; exact .inl rfl, .inl rfl⟩
 | hear f hm hk h12 => exact ⟨.inl rfl, tell_at1 (rxHear_w hI.rx hc hk h12 hw.rj).2.2.1⟩
 | chear f hm hk h3 => exact ⟨.inl rfl, tell_at1 (crdHear_w hI.crx hc hk h3 hw.kj hw.out).2.2.1⟩
 | _ => exact ⟨.inl rfl, .inl rfl⟩
theorem se_dead {g : Bool} {w : Wld} {e : Evt} {i : Nat} {x : End} (h : WldI w) (hi : i < 2) (hw : EndW w.cfg (endAt w i)) (hs : SE g w e i x) : ((endAt w i).tx.dead = true → x.tx = (endAt w i).tx) ∧ ((endAt w i).ctx.dead = true → x.ctx = (endAt w i).ctx) ∧ ((endAt w i).rx.dead = true → x.rx.dead = true ∧ x.got = (endAt w i).got) ∧ ((endAt w i).crx.dead = true → x.crx = (endAt w i).crx ∧ x.got = (endAt w i).got) := by
 have hI := h.ends i hi
 have hc := h.cfg
 have n1 : w.cfg.mode = 1 → (endAt w i).ctx.dead = false ∧ (endAt w i).crx.dead = false := fun h => by rw [(hw.m1 h).1, (hw.m1 h).2]; exact ⟨rfl, rfl⟩
 have n2 : w.cfg.mode ≠ 1 → (endAt w i).tx.dead = false ∧ (endAt w i).rx.dead = false := fun h => by rw [(hw.m2 h).1, (hw.m2 h).2]; exact ⟨rfl, rfl⟩
 cases hs with
 | same => exact ⟨fun _ => rfl, fun _ => rfl, fun h => ⟨h, rfl⟩, fun _ => ⟨rfl, rfl⟩⟩
 | put hm => exact ⟨fun hd => by simp [txPut, hd], fun _ => rfl, fun h => ⟨h, rfl⟩, fun _ => ⟨rfl, rfl⟩⟩
 | send hm => exact ⟨fun hd => by simp [txSend, txStops, hd], fun _ => rfl, fun h => ⟨h, rfl⟩, fun _ => ⟨rfl, rfl⟩⟩
 | tick hm => exact ⟨fun hd => by simp [txTick, hd], fun _ => rfl, fun h => ⟨h, rfl⟩, fun _ => ⟨rfl, rfl⟩⟩
 | busy hm => exact ⟨fun _ => rfl, fun _ => rfl, fun hd => ⟨by simp [rxBusy, hd], rfl⟩, fun _ => ⟨rfl, rfl⟩⟩
 | hear f hm hk h12 =>
  have hr := (rxHear_w hI.rx hc hk h12 hw.rj).2.2.2
  refine ⟨fun hd => by simp [txHear, hd], fun _ => rfl, fun hd => ?_, fun hd => ?_⟩
  ·obtain ⟨h1, h2⟩ := hr hd
   simp only [h1, h2]
   exact ⟨hd, rfl⟩
  ·rw [(n1 hm).2] at hd; cases hd
 | cput hm => exact ⟨fun _ => rfl, fun hd => by simp [crdPut, hd], fun h => ⟨h, rfl⟩, fun _ => ⟨rfl, rfl⟩⟩
 | csend hm => exact ⟨fun _ => rfl, fun hd => by simp only [crdSend]; split; rfl; simp [hd], fun h => ⟨h, rfl⟩, fun _ => ⟨rfl, rfl⟩⟩
 | cgrant hm => exact ⟨fun _ => rfl, fun _ => rfl, fun h => ⟨h, rfl⟩, fun hd => ⟨by simp [crdGrant, hd], rfl⟩⟩
 | ctake n hm => exact ⟨fun _ => rfl, fun hd => by simp [crdTake, hd], fun h => ⟨h, rfl⟩, fun _ => ⟨rfl, rfl⟩⟩
 | chear f hm hk h3 =>
  have hr := (crdHear_w hI.crx hc hk h3 hw.kj hw.out).2.2.2.2
  refine ⟨fun _ => rfl, fun _ => rfl, fun hd => ?_, fun hd => ?_⟩
  ·rw [(n2 hm).2] at hd; cases hd
  ·rw [hr hd]
   exact ⟨rfl, rfl⟩
set_option maxRecDepth 100000
set_option maxHeartbeats 4000000
set_option linter.defProp false
def k15 := mkK [(.c 2 5 true),(.t 3)] [] [] Tryz.func15 Tryz.ntmps15 rfl
theorem part_s (b : Nat) (A : Option Addr) (cc : Nat) (code : List Int) (p : Int) (z : Zc) (hb : By z code (.slice A code.length cc)) (hp : 0 ≤ p ∧ p ≤ 810000) (hl : code.length ≤ 2000) :
  Spec Tryz.prog 77 [.pointer (some ⟨b, 0, none⟩)] z (starL [rdA b A code.length cc p]) fun v z' A' => ∃ (q : Part) (B : Option Addr) (n k : Nat) (p' : Int), v = vPart q (.slice B n k) ∧ A' = starL [rdA b A code.length cc p'] ∧ By z' q.data (.slice B n k) ∧ q.data.length ≤ 8 ∧ p ≤ p' ∧ p' ≤ p + 40 := by
 refine eB k77 ?_
 refine gO ?_
 refine tT ?_; refine callW 1000 (pick_s b A cc code p 4 z hb (by omega) hl (by omega)) rfl rfl rfl rfl ?_; rintro v1 z1 A1 hz1 ⟨x, rfl, rfl, rfl, hx, hx2, _⟩; refine gO ?_
 refine tT ?_; refine callW 1000 (bytes_s b A cc code (p + 1) 8 z hb (by omega) hl (by omega)) rfl rfl rfl rfl ?_; rintro v2 z2 A2 hz2 ⟨out, B, k, p', rfl, rfl, hby, hlen, hp1, hp2⟩; refine gO ?_
 have hb2 := hb.mono hz2
 have hx4 : x = 0 ∨ x = 1 ∨ x = 2 ∨ x = 3 := by have := hx2 (by omega); omega
 rcases hx4 with rfl | rfl | rfl | rfl
 ·refine gO ?_
  refine fQ ?_
  exact ⟨⟨0, out.length, out⟩, B, out.length, k, p', rfl, rfl, hby, by show out.length ≤ 8; omega, by omega, by omega⟩
 ·refine gO ?_
  (with_reducible refine condI.split (fun hg => ?_) (fun hg => ?_) <;> (try simp only [hg]) <;> (try simp only [seval, go_sem]))
  ·refine gO ?_
   have w1 : IntKind.i64.wrap 23 = 23 := wrap_in (by omega) (by omega)
   try simp only [w1]
   refine tT ?_; refine callW 1000 (pick_s b A cc code p' _ z2 hb2 (by omega) hl (by omega)) rfl rfl rfl rfl ?_; rintro v3 z3 A3 hz3 ⟨y, rfl, rfl, rfl, _, _, _⟩; refine gO ?_
   (refine FinV.frz 2 rfl rfl (fun b5 z5 hz5 hr5 => ?_)); dsimp only at hz5; simp only [seval, go_sem, Go.Proofs.YtllafcmkppmdgaaGreat.frz, subV, subC, subE, subL]
   refine fQ ?_
   exact ⟨⟨1, _, [7]⟩, some ⟨b5, 0, none⟩, 1, 1, p' + 1, rfl, rfl, By.mk (l := [7]) (Nat.le_refl _) (fun x hx => by rw [List.mem_singleton.1 hx]; omega) hr5, by simp, by omega, by omega⟩
  ·refine gO ?_
   have w1 : IntKind.i64.wrap (24 - (out.length : Int)) = 24 - (out.length : Int) := wrap_in (by omega) (by omega)
   try simp only [w1]
   refine tT ?_; refine callW 1000 (pick_s b A cc code p' _ z2 hb2 (by omega) hl (by omega)) rfl rfl rfl rfl ?_; rintro v3 z3 A3 hz3 ⟨y, rfl, rfl, rfl, _, _, _⟩; refine gO ?_
   refine fQ ?_
   exact ⟨⟨1, _, out⟩, B, out.length, k, p' + 1, rfl, rfl, hby, by show out.length ≤ 8; omega, by omega, by omega⟩
 ·refine gO ?_
  (with_reducible refine condI.split (fun hg => ?_) (fun hg => ?_) <;> (try simp only [hg]) <;> (try simp only [seval, go_sem]))
  ·refine gO ?_
   (refine FinV.frz 2 rfl rfl (fun b5 z5 hz5 hr5 => ?_)); dsimp only at hz5; simp only [seval, go_sem, Go.Proofs.YtllafcmkppmdgaaGreat.frz, subV, subC, subE, subL]
   refine fQ ?_
   exact ⟨⟨2, _, [7]⟩, some ⟨b5, 0, none⟩, 1, 1, p', rfl, rfl, By.mk (l := [7]) (Nat.le_refl _) (fun x hx => by rw [List.mem_singleton.1 hx]; omega) hr5, by simp, by omega, by omega⟩
  ·refine gO ?_
   refine fQ ?_
   exact ⟨⟨2, _, out⟩, B, out.length, k, p', rfl, rfl, hby, by show out.length ≤ 8; omega, by omega, by omega⟩
 ·refine gO ?_
  (with_reducible refine condI.split (fun hg => ?_) (fun hg => ?_) <;> (try simp only [hg]) <;> (try simp only [seval, go_sem]))
  ·refine gO ?_
   (refine FinV.frz 2 rfl rfl (fun b5 z5 hz5 hr5 => ?_)); dsimp only at hz5; simp only [seval, go_sem, Go.Proofs.YtllafcmkppmdgaaGreat.frz, subV, subC, subE, subL]
   refine fQ ?_
   exact ⟨⟨3, _, [7]⟩, some ⟨b5, 0, none⟩, 1, 1, p', rfl, rfl, By.mk (l := [7]) (Nat.le_refl _) (fun x hx => by rw [List.mem_singleton.1 hx]; omega) hr5, by simp, by omega, by omega⟩
  ·refine gO ?_
   refine fQ ?_
   exact ⟨⟨3, _, out⟩, B, out.length, k, p', rfl, rfl, hby, by show out.length ≤ 8; omega, by omega, by omega⟩
theorem frame_s (b : Nat) (A : Option Addr) (cc : Nat) (code : List Int) (p : Int) (z : Zc) (hb : By z code (.slice A code.length cc)) (hp : 0 ≤ p ∧ p ≤ 800100) (hl : code.length ≤ 2000) :
  Spec Tryz.prog 51 [.pointer (some ⟨b, 0, none⟩), .int .i64 0] z (starL [rdA b A code.length cc p]) fun v z' A' => ∃ (f : Frm) (B : Option Addr) (n k : Nat) (p' : Int), v = vFrm f (.slice B n k) ∧ A' = starL [rdA b A code.length cc p'] ∧ By z' f.data (.slice B n k) ∧ f.data.length ≤ 8 ∧ p ≤ p' ∧ p' ≤ p + 60 := by
 refine eB k51 ?_
 refine gO ?_
 refine tT ?_; refine callW 1000 (pick_s b A cc code p 4 z hb (by omega) hl (by omega)) rfl rfl rfl rfl ?_; rintro v1 z1 A1 hz1 ⟨x, rfl, rfl, rfl, hx, hx2, _⟩; refine gO ?_
 have w1 : IntKind.i64.wrap (1 + x) = 1 + x := wrap_in (by omega) (by have := hx2 (by omega); omega)
 simp only [w1]
 have hx4 : x = 0 ∨ x = 1 ∨ x = 2 ∨ x = 3 := by have := hx2 (by omega); omega
 rcases hx4 with rfl | rfl | rfl | rfl
 ·refine gO ?_
  refine tT ?_; refine callW 1000 (part_s b A cc code (p + 1) z hb (by omega) hl) rfl rfl rfl rfl ?_; rintro v2 z2 A2 hz2 ⟨q, B, n, k, p2, rfl, rfl, hby, hlen, hp1, hp2⟩; refine gO ?_
  have hb2 := hb.mono hz2
  refine tT ?_; refine callW 1000 (pick_s b A cc code p2 8 z2 hb2 (by omega) hl (by omega)) rfl rfl rfl rfl ?_; rintro v3 z3 A3 hz3 ⟨y1, rfl, rfl, rfl, _, _, _⟩; refine gO ?_
  refine tT ?_; refine callW 1000 (pick_s b A cc code (p2 + 1) 8 z2 hb2 (by omega) hl (by omega)) rfl rfl rfl rfl ?_; rintro v4 z4 A4 hz4 ⟨y2, rfl, rfl, rfl, _, _, _⟩; refine gO ?_
  refine tT ?_; refine callW 1000 (pick_s b A cc code (p2 + 1 + 1) 9 z2 hb2 (by omega) hl (by omega)) rfl rfl rfl rfl ?_; rintro v5 z5 A5 hz5 ⟨y3, rfl, rfl, rfl, _, _, _⟩; refine gO ?_
  refine tT ?_; refine callW 1000 (odd0 b A code.length cc (p2 + 1 + 1 + 1) z2) rfl rfl rfl rfl ?_; rintro v6 z6 A6 hz6 ⟨rfl, rfl, rfl⟩; refine gO ?_
  refine fQ ?_
  exact ⟨⟨1, y1, y2, false, _, 0, q.seg, q.len, q.data⟩, B, n, k, p2 + 1 + 1 + 1, rfl, rfl, hby, hlen, by omega, by omega⟩
 ·refine gO ?_
  refine tT ?_; refine callW 1000 (pick_s b A cc code (p + 1) 8 z hb (by omega) hl (by omega)) rfl rfl rfl rfl ?_; rintro v3 z3 A3 hz3 ⟨y1, rfl, rfl, rfl, _, _, _⟩; refine gO ?_
  refine tT ?_; refine callW 1000 (pick_s b A cc code (p + 1 + 1) 3 z hb (by omega) hl (by omega)) rfl rfl rfl rfl ?_; rintro v4 z4 A4 hz4 ⟨y2, rfl, rfl, rfl, _, _, _⟩; refine gO ?_
  by_cases hy : y2 = 0
  ·subst hy
   refine gO ?_
   refine tT ?_; refine callW 1000 (pick_s b A cc code (p + 1 + 1 + 1) 3 z hb (by omega) hl (by omega)) rfl rfl rfl rfl ?_; rintro v5 z5 A5 hz5 ⟨y3, rfl, rfl, rfl, _, _, _⟩; refine gO ?_
   refine tT ?_; refine callW 1000 (odd0 b A code.length cc (p + 1 + 1 + 1 + 1) z) rfl rfl rfl rfl ?_; rintro v6 z6 A6 hz6 ⟨rfl, rfl, rfl⟩; refine gO ?_
   refine fQ ?_
   exact ⟨⟨2, 0, y1, true, false, y3, 0, 0, []⟩, none, 0, 0, _, rfl, rfl, Sl.nil _ _ _, by simp, by omega, by omega⟩
  ·have hy2 : (y2 == 0) = false := by simp [hy]
   simp only [hy2]
   refine gO ?_
   refine tT ?_; refine callW 1000 (pick_s b A cc code (p + 1 + 1 + 1) 3 z hb (by omega) hl (by omega)) rfl rfl rfl rfl ?_; rintro v5 z5 A5 hz5 ⟨y3, rfl, rfl, rfl, _, _, _⟩; refine gO ?_
   refine tT ?_; refine callW 1000 (pick_s b A cc code (p + 1 + 1 + 1 + 1) 3 z hb (by omega) hl (by omega)) rfl rfl rfl rfl ?_; rintro v7 z7 A7 hz7 ⟨y4, rfl, rfl, rfl, _, _, _⟩; refine gO ?_
   refine tT ?_; refine callW 1000 (odd0 b A code.length cc (p + 1 + 1 + 1 + 1 + 1) z) rfl rfl rfl rfl ?_; rintro v6 z6 A6 hz6 ⟨rfl, rfl, rfl⟩; refine gO ?_
   refine fQ ?_
   exact ⟨⟨2, 0, y1, false, _, y4, 0, 0, []⟩, none, 0, 0, _, rfl, rfl, Sl.nil _ _ _, by simp, by omega, by omega⟩
 ·refine gO ?_
  refine tT ?_; refine callW 1000 (part_s b A cc code (p + 1) z hb (by omega) hl) rfl rfl rfl rfl ?_; rintro v2 z2 A2 hz2 ⟨q, B, n, k, p2, rfl, rfl, hby, hlen, hp1, hp2⟩; refine gO ?_
  refine tT ?_; refine callW 1000 (odd0 b A code.length cc p2 z2) rfl rfl rfl rfl ?_; rintro v6 z6 A6 hz6 ⟨rfl, rfl, rfl⟩; refine gO ?_
  refine fQ ?_
  exact ⟨⟨3, 0, 0, false, false, 0, q.seg, q.len, q.data⟩, B, n, k, p2, rfl, rfl, hby, hlen, by omega, by omega⟩
 ·refine gO ?_
  refine tT ?_; refine callW 1000 (pick_s b A cc code (p + 1) 9 z hb (by omega) hl (by omega)) rfl rfl rfl rfl ?_; rintro v3 z3 A3 hz3 ⟨y1, rfl, rfl, rfl, _, _, _⟩; refine gO ?_
  refine tT ?_; refine callW 1000 (pick_s b A cc code (p + 1 + 1) 2 z hb (by omega) hl (by omega)) rfl rfl rfl rfl ?_; rintro v4 z4 A4 hz4 ⟨y2, rfl, rfl, rfl, hy, hy2, _⟩; refine gO ?_
  refine ⟨⟨hy, by omega⟩, by omega, ?_⟩
  have hy3 : y2 = 0 ∨ y2 = 1 := by have := hy2 (by omega); omega
  rcases hy3 with rfl | rfl
  all_goals simp only [seval, go_sem, Int.reduceToNat]
  all_goals refine gO ?_
  all_goals refine tT ?_; refine callW 1000 (odd0 b A code.length cc (p + 1 + 1 + 1) z) rfl rfl rfl rfl ?_; rintro v6 z6 A6 hz6 ⟨rfl, rfl, rfl⟩; refine gO ?_
  all_goals refine fQ ?_
  all_goals exact ⟨⟨4, 0, 0, false, false, 0, 0, _, []⟩, none, 0, 0, _, rfl, rfl, Sl.nil _ _ _, by simp, by omega, by omega⟩
theorem event_w1 : DrawE (fun e => EvD e) true true := fun b A cc code p c link m z hb hp hl hm => by
 refine eB k62 ?_
 refine gO ?_
 refine tT ?_; refine callW 1000 (pick_s b A cc code p 2 z hb (by omega) hl (by omega)) rfl rfl rfl rfl ?_; rintro v1 z1 A' hz1 ⟨x, rfl, rfl, rfl, hx, hx2, _⟩; refine gO ?_
 refine tT ?_; refine callW 1000 (pick_s b A cc code (p + 1) 20 z hb (by omega) hl (by omega)) rfl rfl rfl rfl ?_; rintro v2 z1 A' hz2 ⟨y, rfl, rfl, rfl, hy, hy2, _⟩; refine gO ?_
 have hw : x = 0 ∨ x = 1 := by have := hx2 (by omega); omega
 (try simp only [seval, go_sem]); repeat' (first | (with_reducible refine vsI.id ?_; (try simp only [seval, go_sem])) | (with_reducible refine vcI_cond ?_; (try simp only [seval, go_sem])) | (with_reducible refine guardR.split (fun hg => ?_) (fun hg => ?_) <;> (try simp only [hg]) <;> simp only [seval, go_sem]) | (with_reducible refine condI.split (fun hg => ?_) (fun hg => ?_) <;> (try simp only [hg]) <;> (try simp only [seval, go_sem])) | (with_reducible refine callM.toT ?_))
 all_goals try (refine fQ ?_; first
  | exact ⟨⟨2, x, 0, 0, []⟩, none, 0, 0, _, rfl, rfl, Sl.nil _ _ _, ⟨by simp, hw, by simp⟩, ⟨by simp, hw, by simp⟩, by omega, by omega⟩
  | exact ⟨⟨3, x, 0, 0, []⟩, none, 0, 0, _, rfl, rfl, Sl.nil _ _ _, ⟨by simp, hw, by simp⟩, ⟨by simp, hw, by simp⟩, by omega, by omega⟩
  | exact ⟨⟨5, x, 0, 0, []⟩, none, 0, 0, _, rfl, rfl, Sl.nil _ _ _, ⟨by simp, hw, by simp⟩, ⟨by simp, hw, by simp⟩, by omega, by omega⟩
  | exact ⟨⟨6, x, 0, 0, []⟩, none, 0, 0, _, rfl, rfl, Sl.nil _ _ _, ⟨by simp, hw, by simp⟩, ⟨by simp, hw, by simp⟩, by omega, by omega⟩
  | exact ⟨⟨7, x, 0, 0, []⟩, none, 0, 0, _, rfl, rfl, Sl.nil _ _ _, ⟨by simp, hw, by simp⟩, ⟨by simp, hw, by simp⟩, by omega, by omega⟩
  | exact ⟨⟨8, x, 0, 0, []⟩, none, 0, 0, _, rfl, rfl, Sl.nil _ _ _, ⟨by simp, hw, by simp⟩, ⟨by simp, hw, by simp⟩, by omega, by omega⟩)
 ·refine tT ?_; refine callW 1000 (pick_s b A cc code (p + 1 + 1) 2 z hb (by omega) hl (by omega)) rfl rfl rfl rfl ?_; rintro v3 z1 A' hz3 ⟨u, rfl, rfl, rfl, hu, hu2, _⟩; refine gO ?_
  have hu1 := hu2 (by omega)
  have w1 : IntKind.i64.wrap (c.mtu + u) = c.mtu + u := wrap_in (by omega) (by omega)
  simp only [w1]
  refine tT ?_; refine callW 1000 (bytes_s b A cc code (p + 1 + 1 + 1) (c.mtu + u) z hb (by omega) hl (by omega)) rfl rfl rfl rfl ?_; rintro v4 z4 A' hz4 ⟨out, B, k, p', rfl, rfl, hby, hlen, hp1, hp2⟩; refine gO ?_
  refine fQ ?_
  exact ⟨⟨1, x, 0, 0, out⟩, B, out.length, k, p', rfl, rfl, hby, ⟨by simp, hw, by show out.length ≤ 100; omega⟩, ⟨by simp, hw, by show out.length ≤ 100; omega⟩, by omega, by omega⟩
 ·refine tT ?_; refine callW 1000 (pick_s b A cc code (p + 1 + 1) 2 z hb (by omega) hl (by omega)) rfl rfl rfl rfl ?_; rintro v3 z1 A' hz3 ⟨u, rfl, rfl, rfl, hu, hu2, _⟩; refine gO ?_
  have hu1 := hu2 (by omega)
  have w1 : IntKind.i64.wrap (c.mtu + u) = c.mtu + u := wrap_in (by omega) (by omega)
  simp only [w1]
  refine tT ?_; refine callW 1000 (bytes_s b A cc code (p + 1 + 1 + 1) (c.mtu + u) z hb (by omega) hl (by omega)) rfl rfl rfl rfl ?_; rintro v4 z4 A' hz4 ⟨out, B, k, p', rfl, rfl, hby, hlen, hp1, hp2⟩; refine gO ?_
  refine fQ ?_
  exact ⟨⟨1, x, 0, 0, out⟩, B, out.length, k, p', rfl, rfl, hby, ⟨by simp, hw, by show out.length ≤ 100; omega⟩, ⟨by simp, hw, by show out.length ≤ 100; omega⟩, by omega, by omega⟩
 ·refine tT ?_; refine callW 1000 (pick_s b A cc code (p + 1 + 1) 2 z hb (by omega) hl (by omega)) rfl rfl rfl rfl ?_; rintro v3 z1 A' hz3 ⟨u, rfl, rfl, rfl, hu, hu2, _⟩; refine gO ?_
  have hu1 := hu2 (by omega)
  have w1 : IntKind.i64.wrap (c.mtu + u) = c.mtu + u := wrap_in (by omega) (by omega)
  simp only [w1]
  refine tT ?_; refine callW 1000 (bytes_s b A cc code (p + 1 + 1 + 1) (c.mtu + u) z hb (by omega) hl (by omega)) rfl rfl rfl rfl ?_; rintro v4 z4 A' hz4 ⟨out, B, k, p', rfl, rfl, hby, hlen, hp1, hp2⟩; refine gO ?_
  refine fQ ?_
  exact ⟨⟨1, x, 0, 0, out⟩, B, out.length, k, p', rfl, rfl, hby, ⟨by simp, hw, by show out.length ≤ 100; omega⟩, ⟨by simp, hw, by show out.length ≤ 100; omega⟩, by omega, by omega⟩
 ·refine tT ?_; refine callW 1000 (pick_s b A cc code (p + 1 + 1) 2 z hb (by omega) hl (by omega)) rfl rfl rfl rfl ?_; rintro v3 z1 A' hz3 ⟨u, rfl, rfl, rfl, hu, hu2, _⟩; refine gO ?_
  refine tT ?_; refine callW 1000 (pick_s b A cc code (p + 1 + 1 + 1) 2 z hb (by omega) hl (by omega)) rfl rfl rfl rfl ?_; rintro v4 z1 A' hz4 ⟨u', rfl, rfl, rfl, hu', hu2', _⟩; refine gO ?_
  refine fQ ?_
  exact ⟨⟨4, x, 0, _, []⟩, none, 0, 0, _, rfl, rfl, Sl.nil _ _ _, ⟨by simp, hw, by simp⟩, ⟨by simp, hw, by simp⟩, by omega, by omega⟩
 ·refine tT ?_; refine callW 1000 (pick_s b A cc code (p + 1 + 1) 16 z hb (by omega) hl (by omega)) rfl rfl rfl rfl ?_; rintro v3 z1 A' hz3 ⟨u, rfl, rfl, rfl, hu, hu2, _⟩; refine gO ?_
  refine tT ?_; refine callW 1000 (pick_s b A cc code (p + 1 + 1 + 1) 255 z hb (by omega) hl (by omega)) rfl rfl rfl rfl ?_; rintro v4 z1 A' hz4 ⟨u', rfl, rfl, rfl, hu', hu2', _⟩; refine gO ?_
  refine fQ ?_
  exact ⟨⟨9, x, _, _, []⟩, none, 0, 0, _, rfl, rfl, Sl.nil _ _ _, ⟨by simp, hw, by simp⟩, ⟨by simp, hw, by simp⟩, by omega, by omega⟩
 ·refine tT ?_; refine callW 1000 (pick_s b A cc code (p + 1 + 1) 4 z hb (by omega) hl (by omega)) rfl rfl rfl rfl ?_; rintro v3 z1 A' hz3 ⟨u, rfl, rfl, rfl, hu, hu2, _⟩; refine gO ?_
  (with_reducible refine condI.split (fun hg => ?_) (fun hg => ?_) <;> (try simp only [hg]) <;> (try simp only [seval, go_sem]))
  ·refine fQ ?_
   exact ⟨⟨10, 0, 0, 0, []⟩, none, 0, 0, _, rfl, rfl, Sl.nil _ _ _, ⟨by simp, .inl rfl, by simp⟩, ⟨by simp, .inl rfl, by simp⟩, by omega, by omega⟩
  ·refine gO ?_
   refine tT ?_; refine callW 1000 (frame_s b A cc code (p + 1 + 1 + 1) z hb (by omega) hl) rfl rfl rfl rfl ?_; rintro v4 z4 A4 hz4 ⟨f, B, n, k, p', rfl, rfl, hby, hlen, hp1, hp2⟩; refine gO ?_
   have hb4 := hb.mono hz4
   refine tT ?_; refine callP (frmBytes_s f _ z4 hby (by omega)) rfl rfl ?_; rintro v5 z5 hz5 hbf; refine gO ?_
   obtain ⟨A5, k5, rfl, hk5, hB5, hr5⟩ := hbf.form
   have hle := frmBytes_le f
   refine tT ?_; refine callW 1000 (pick_s b A cc code p' 4 z5 (hb4.mono hz5) (by omega) hl (by omega)) rfl rfl rfl rfl ?_; rintro v6 z6 A6 hz6 ⟨u2, rfl, rfl, rfl, _, _, _⟩; refine gO ?_
   (with_reducible refine condI.split (fun hg => ?_) (fun hg => ?_) <;> (try simp only [hg]) <;> (try simp only [seval, go_sem]))
   ·refine gO ?_
    refine tT ?_; refine callW 1000 (bytes_s b A cc code (p' + 1) 15 z5 (hb4.mono hz5) (by omega) hl (by omega)) rfl rfl rfl rfl ?_; rintro v7 z7 A7 hz7 ⟨out, B7, k7, p7, rfl, rfl, hby7, hlen7, hp3, hp4⟩; refine gO ?_
    refine fQ ?_
    exact ⟨⟨11, x, 0, 0, out⟩, B7, out.length, k7, p7, rfl, rfl, hby7, ⟨by simp, hw, by show out.length ≤ 100; omega⟩, ⟨by simp, hw, by show out.length ≤ 100; omega⟩, by omega, by omega⟩
   ·refine fQ ?_
    exact ⟨⟨11, x, 0, 0, frmBytes f⟩, A5, (frmBytes f).length, k5, p' + 1, rfl, rfl, hbf, ⟨by simp, hw, by show (frmBytes f).length ≤ 100; omega⟩, ⟨by simp, hw, by show (frmBytes f).length ≤ 100; omega⟩, by omega, by omega⟩
theorem event_w0 : DrawE (fun e => EvD e) false true := fun b A cc code p c link m z hb hp hl hm => by
 refine eB k62 ?_
 refine gO ?_
 refine tT ?_; refine callW 1000 (pick_s b A cc code p 2 z hb (by omega) hl (by omega)) rfl rfl rfl rfl ?_; rintro v1 z1 A' hz1 ⟨x, rfl, rfl, rfl, hx, hx2, _⟩; refine gO ?_
 refine tT ?_; refine callW 1000 (pick_s b A cc code (p + 1) 20 z hb (by omega) hl (by omega)) rfl rfl rfl rfl ?_; rintro v2 z1 A' hz2 ⟨y, rfl, rfl, rfl, hy, hy2, _⟩; refine gO ?_
 have hw : x = 0 ∨ x = 1 := by have := hx2 (by omega); omega
 (try simp only [seval, go_sem]); repeat' (first | (with_reducible refine vsI.id ?_; (try simp only [seval, go_sem])) | (with_reducible refine vcI_cond ?_; (try simp only [seval, go_sem])) | (with_reducible refine guardR.split (fun hg => ?_) (fun hg => ?_) <;> (try simp only [hg]) <;> simp only [seval, go_sem]) | (with_reducible refine condI.split (fun hg => ?_) (fun hg => ?_) <;> (try simp only [hg]) <;> (try simp only [seval, go_sem])) | (with_reducible refine callM.toT ?_))
 all_goals try (refine fQ ?_; first
  | exact ⟨⟨2, x, 0, 0, []⟩, none, 0, 0, _, rfl, rfl, Sl.nil _ _ _, ⟨by simp, hw, by simp⟩, ⟨by simp, hw, by simp⟩, by omega, by omega⟩
  | exact ⟨⟨3, x, 0, 0, []⟩, none, 0, 0, _, rfl, rfl, Sl.nil _ _ _, ⟨by simp, hw, by simp⟩, ⟨by simp, hw, by simp⟩, by omega, by omega⟩
  | exact ⟨⟨5, x, 0, 0, []⟩, none, 0, 0, _, rfl, rfl, Sl.nil _ _ _, ⟨by simp, hw, by simp⟩, ⟨by simp, hw, by simp⟩, by omega, by omega⟩
  | exact ⟨⟨6, x, 0, 0, []⟩, none, 0, 0, _, rfl, rfl, Sl.nil _ _ _, ⟨by simp, hw, by simp⟩, ⟨by simp, hw, by simp⟩, by omega, by omega⟩
  | exact ⟨⟨7, x, 0, 0, []⟩, none, 0, 0, _, rfl, rfl, Sl.nil _ _ _, ⟨by simp, hw, by simp⟩, ⟨by simp, hw, by simp⟩, by omega, by omega⟩
  | exact ⟨⟨8, x, 0, 0, []⟩, none, 0, 0, _, rfl, rfl, Sl.nil _ _ _, ⟨by simp, hw, by simp⟩, ⟨by simp, hw, by simp⟩, by omega, by omega⟩)
 ·refine tT ?_; refine callW 1000 (pick_s b A cc code (p + 1 + 1) 2 z hb (by omega) hl (by omega)) rfl rfl rfl rfl ?_; rintro v3 z1 A' hz3 ⟨u, rfl, rfl, rfl, hu, hu2, _⟩; refine gO ?_
  have hu1 := hu2 (by omega)
  have w1 : IntKind.i64.wrap (c.mtu + u) = c.mtu + u := wrap_in (by omega) (by omega)
  simp only [w1]
  refine tT ?_; refine callW 1000 (bytes_s b A cc code (p + 1 + 1 + 1) (c.mtu + u) z hb (by omega) hl (by omega)) rfl rfl rfl rfl ?_; rintro v4 z4 A' hz4 ⟨out, B, k, p', rfl, rfl, hby, hlen, hp1, hp2⟩; refine gO ?_
  refine fQ ?_
  exact ⟨⟨1, x, 0, 0, out⟩, B, out.length, k, p', rfl, rfl, hby, ⟨by simp, hw, by show out.length ≤ 100; omega⟩, ⟨by simp, hw, by show out.length ≤ 100; omega⟩, by omega, by omega⟩
 ·refine tT ?_; refine callW 1000 (pick_s b A cc code (p + 1 + 1) 2 z hb (by omega) hl (by omega)) rfl rfl rfl rfl ?_; rintro v3 z1 A' hz3 ⟨u, rfl, rfl, rfl, hu, hu2, _⟩; refine gO ?_
  have hu1 := hu2 (by omega)
  have w1 : IntKind.i64.wrap (c.mtu + u) = c.mtu + u := wrap_in (by omega) (by omega)
  simp only [w1]
  refine tT ?_; refine callW 1000 (bytes_s b A cc code (p + 1 + 1 + 1) (c.mtu + u) z hb (by omega) hl (by omega)) rfl rfl rfl rfl ?_; rintro v4 z4 A' hz4 ⟨out, B, k, p', rfl, rfl, hby, hlen, hp1, hp2⟩; refine gO ?_
  refine fQ ?_
  exact ⟨⟨1, x, 0, 0, out⟩, B, out.length, k, p', rfl, rfl, hby, ⟨by simp, hw, by show out.length ≤ 100; omega⟩, ⟨by simp, hw, by show out.length ≤ 100; omega⟩, by omega, by omega⟩
 ·refine tT ?_; refine callW 1000 (pick_s b A cc code (p + 1 + 1) 2 z hb (by omega) hl (by omega)) rfl rfl rfl rfl ?_; rintro v3 z1 A' hz3 ⟨u, rfl, rfl, rfl, hu, hu2, _⟩; refine gO ?_
  have hu1 := hu2 (by omega)
  have w1 : IntKind.i64.wrap (c.mtu + u) = c.mtu + u := wrap_in (by omega) (by omega)
  simp only [w1]
  refine tT ?_; refine callW 1000 (bytes_s b A cc code (p + 1 + 1 + 1) (c.mtu + u) z hb (by omega) hl (by omega)) rfl rfl rfl rfl ?_; rintro v4 z4 A' hz4 ⟨out, B, k, p', rfl, rfl, hby, hlen, hp1, hp2⟩; refine gO ?_
  refine fQ ?_
  exact ⟨⟨1, x, 0, 0, out⟩, B, out.length, k, p', rfl, rfl, hby, ⟨by simp, hw, by show out.length ≤ 100; omega⟩, ⟨by simp, hw, by show out.length ≤ 100; omega⟩, by omega, by omega⟩
 ·refine tT ?_; refine callW 1000 (pick_s b A cc code (p + 1 + 1) 2 z hb (by omega) hl (by omega)) rfl rfl rfl rfl ?_; rintro v3 z1 A' hz3 ⟨u, rfl, rfl, rfl, hu, hu2, _⟩; refine gO ?_
  refine tT ?_; refine callW 1000 (pick_s b A cc code (p + 1 + 1 + 1) 2 z hb (by omega) hl (by omega)) rfl rfl rfl rfl ?_; rintro v4 z1 A' hz4 ⟨u', rfl, rfl, rfl, hu', hu2', _⟩; refine gO ?_
  refine fQ ?_
  exact ⟨⟨4, x, 0, _, []⟩, none, 0, 0, _, rfl, rfl, Sl.nil _ _ _, ⟨by simp, hw, by simp⟩, ⟨by simp, hw, by simp⟩, by omega, by omega⟩
 ·refine gO ?_
  refine tT ?_; refine callW 1000 (frame_s b A cc code (p + 1 + 1) z hb (by omega) hl) rfl rfl rfl rfl ?_; rintro v4 z4 A4 hz4 ⟨f, B, n, k, p', rfl, rfl, hby, hlen, hp1, hp2⟩; refine gO ?_
  have hb4 := hb.mono hz4
  refine tT ?_; refine callP (frmBytes_s f _ z4 hby (by omega)) rfl rfl ?_; rintro v5 z5 hz5 hbf; refine gO ?_
  obtain ⟨A5, k5, rfl, hk5, hB5, hr5⟩ := hbf.form
  have hle := frmBytes_le f
  refine tT ?_; refine callW 1000 (pick_s b A cc code p' 4 z5 (hb4.mono hz5) (by omega) hl (by omega)) rfl rfl rfl rfl ?_; rintro v6 z6 A6 hz6 ⟨u2, rfl, rfl, rfl, _, _, _⟩; refine gO ?_
  (with_reducible refine condI.split (fun hg => ?_) (fun hg => ?_) <;> (try simp only [hg]) <;> (try simp only [seval, go_sem]))
  ·refine gO ?_
   refine tT ?_; refine callW 1000 (bytes_s b A cc code (p' + 1) 15 z5 (hb4.mono hz5) (by omega) hl (by omega)) rfl rfl rfl rfl ?_; rintro v7 z7 A7 hz7 ⟨out, B7, k7, p7, rfl, rfl, hby7, hlen7, hp3, hp4⟩; refine gO ?_
   refine fQ ?_
   exact ⟨⟨11, x, 0, 0, out⟩, B7, out.length, k7, p7, rfl, rfl, hby7, ⟨by simp, hw, by show out.length ≤ 100; omega⟩, ⟨by simp, hw, by show out.length ≤ 100; omega⟩, by omega, by omega⟩
  ·refine fQ ?_
   exact ⟨⟨11, x, 0, 0, frmBytes f⟩, A5, (frmBytes f).length, k5, p' + 1, rfl, rfl, hbf, ⟨by simp, hw, by show (frmBytes f).length ≤ 100; omega⟩, ⟨by simp, hw, by show (frmBytes f).length ≤ 100; omega⟩, by omega, by omega⟩
theorem play_w (hard : Bool) (hQ : DrawE (fun e => EvD e) hard true) (b : Nat) (A : Option Addr) (cc : Nat) (code : List Int) (z : Zc) (hb : By z code (.slice A code.length cc)) (hlen : code.length ≤ 2000) :
  Spec Tryz.prog 34 [.pointer (some ⟨b, 0, none⟩), .int .i64 140, .int .i64 0, .bool hard, .bool true] z (starL [rdA b A code.length cc 1]) (PlayG (fun e => EvD e) 0) := by
 refine eB k34 ?_
 refine gO ?_
 refine tT ?_; refine callW 1000 (cfg_s b A cc code 1 z hb (by omega) hlen) rfl rfl rfl rfl ?_; rintro v1 z1 A1 hz1 ⟨⟨q1, q2, q3, q4, q5⟩, p1, rfl, rfl, hc1, hp1, hp1'⟩; refine gO ?_
 try simp only [seval, go_sem, show decide ((0 : Int) > 0) = false from rfl]
 refine gO ?_
 have hc : CfgI ⟨q1, q2, q3, q4, q5⟩ := hc1
 refine tT ?_; refine callO 1001 ((new_s ⟨q1, q2, q3, q4, q5⟩ z1 (cfgOk_iff.2 hc)).mono fun _ _ _ _ h => wldH_of h (wldNew_I hc)) rfl rfl rfl ?_; rintro v2 z2 A2 hz2 ⟨e0, e1, n0, n1, m, link, rfl, rfl, hR, hW⟩; refine gO ?_
 refine tT ?_; refine callW 1000 (pick_s b A cc code p1 140 z2 ((hb.mono hz1).mono hz2) (by omega) hlen (by omega)) rfl rfl rfl rfl ?_; rintro v3 z3 A3 hz3 ⟨x, rfl, rfl, rfl, hx0, hx1, _⟩; refine gO ?_
 have hx1 := hx1 (by omega)
 obtain ⟨k0, rfl⟩ := Int.eq_ofNat_of_zero_le hx0
 refine loopV.toRow 90 4 rfl rfl (m := 0) (sz := 5) rfl (by omega) (fun b0 => ?_)
 simp only [seval, go_sem, rowSt, subV, subC, subE, subL]
 refine loop_upd (ι := PlayS) (n := 5) (fun s => z2 ≤ s.z ∧ s.k + s.evs.length = k0 ∧ p1 ≤ s.p ∧ s.p ≤ p1 + 1 + 200 * s.evs.length ∧ Els eRep s.z s.evs s.cs ∧ s.evs.length ≤ s.C ∧ (∀ e ∈ s.evs, EvD e) ∧ WldR s.z s.e0 s.e1 s.n0 s.n1 s.m ∧ WldI ⟨⟨q1, q2, q3, q4, q5⟩, [s.e0, s.e1], [s.n0, s.n1], s.link⟩) (fun s => [(15, .c (.v (.slice s.A s.evs.length s.C))), (16, .c (.v (.int .i64 s.k)))])
  (fun s => [(1000, .own (starL [rdA b A code.length cc s.p])), (1001, .own (wldA s.e0 s.e1 s.n0 s.n1 s.m)), (90, .own (rowA 35 5 (.slice s.A s.evs.length s.C) s.evs.length s.cs)), (3, .cells 31 [.v (.int .i64 q1), .v (.int .i64 q2), .v (.int .i64 q3), .v (.int .i64 q4), .v (.int .i64 q5), .v (.slice s.m.E 2 s.m.EC), .v (.slice s.m.N 2 s.m.NC), .v (.int .i64 s.link)]), (2, .cells 24 [.v (.int .i64 q1), .v (.int .i64 q2), .v (.int .i64 q3), .v (.int .i64 q4), .v (.int .i64 q5)]), (1, .cells 31 [.v (.int .i64 0), .v (.int .i64 0), .v (.int .i64 0), .v (.int .i64 0), .v (.int .i64 0), .v (.slice none 0 0), .v (.slice none 0 0), .v (.int .i64 0)]), (0, .cells 24 z5)])
  (fun s => s.z) (fun s => s.k) ⟨k0, p1 + 1, [], [], some ⟨b0, 0, none⟩, 0, e0, e1, n0, n1, link, m, z2⟩ ⟨Zc.rfl' _, by simp, by dsimp only; omega, by simp, rfl, Nat.le_refl _, by simp, hR, hW⟩ (by (simp only [wrI, wrR, anyL, st, List.append_nil, List.nil_append, List.cons_append]); exact rfl) ?_ ?_
 ·simp only [List.length_nil]
  exact lX
 ·rintro ⟨k, p, evs, cs, EA, EC, e0, e1, n0, n1, link, m, y⟩ ⟨hy, hk, hp2, hp3, hE, hEC, hEv, hR, hW⟩
  dsimp only at *
  refine gO ?_
  (with_reducible refine condI.split (fun hg => ?_) (fun hg => ?_) <;> (try simp only [hg]) <;> (try simp only [seval, go_sem]))
  ·have hk0 : 0 < k := by have := of_decide_eq_true hg; omega
   refine gO ?_
   refine tT ?_; refine callW 1000 (hQ b A cc code p ⟨q1, q2, q3, q4, q5⟩ link m y (((hb.mono hz1).mono hz2).mono hy) ⟨by omega, by omega⟩ hlen ⟨hc.mtu.1, hc.mtu.2⟩) rfl rfl rfl rfl ?_; rintro v4 z4 A4 hz4 ⟨eV, B, bn, bc, p', rfl, rfl, hby, hev, hqe, hp4, hp5⟩; refine gO ?_
   have hr4 := WldR.mono hz4 hR
   refine aT ?_; (refine appM_newF 90 atyV rfl rfl rfl rfl rfl rfl rfl (by simp [Value.oneCell']) (by omega) (fun A6 c6 hc6 hat6 => ?_)); simp only [seval, go_sem]
   refine gO ?_
   obtain ⟨hk1, hwho, hdl⟩ := hev
   have hEv' : ∀ x ∈ evs ++ [eV], EvD x := fun x hx => by
    rcases List.mem_append.1 hx with hx | hx
    ·exact hEv x hx
    ·rw [List.mem_singleton.1 hx]; exact hqe
   have hW' := step_I (g := true) hW eV
   have hwk : IntKind.i64.wrap ((k : Int) - 1) = ((k - 1 : Nat) : Int) := by rw [wrap_in (by omega) (by omega)]; omega
   refine tT ?_; refine callW 1001 ((stepE_w q1 ⟨q1, q2, q3, q4, q5⟩ link e0 e1 n0 n1 m eV (.slice B bn bc) z4 hby (by omega) hr4 hW rfl hwho hk1).mono fun _ _ _ _ h => wldH_of h hW') rfl rfl rfl rfl ?_; rintro v5 z5 A5 hz5 ⟨e0', e1', n0', n1', m', link', rfl, rfl, hR5, hW5⟩; refine gO ?_
   refine gO ?_
   simp only [hwk]
   refine ⟨⟨k - 1, p', evs ++ [eV], cs ++ [.int .i64 eV.kind, .int .i64 eV.who, .int .i64 eV.at_, .int .i64 eV.v, .slice B bn bc], A6, c6, e0', e1', n0', n1', link', m', z5⟩, ⟨Zc.trans' hy (Zc.trans' hz4 hz5), by dsimp only; rw [List.length_append, List.length_singleton]; omega, by dsimp only; omega, by dsimp only; rw [List.length_append, List.length_singleton]; omega, ?_, by dsimp only; rw [List.length_append, List.length_singleton]; omega, hEv', hR5, hW5⟩, by dsimp only; omega, ?_⟩
   ·exact Els.append (hE.mono (Zc.trans' hz4 hz5)) (Els.single ⟨_, rfl, hby.mono hz5⟩)
   ·simp only [List.length_append, List.length_singleton]
    exact lX
  ·have hk0 : k = 0 := by have := of_decide_eq_false hg; omega
   subst hk0
   (try simp only [seval, go_sem])
   refine vsI.frzA 1001 rfl (RdA.wld hR) rfl (fun z6 hz6 hP6 => ?_)
   have hP6 := hP6 hz6
   simp only [seval, go_sem]
   (refine vsI.frzR 90 rfl rfl (fun A7 c7 z7 hv7 hc7 hz7 hr7 => ?_)); (first | subst hv7 | (injection hv7 with hv_1 hv_2 hv_3; subst hv_1; subst hv_3)); refine gO ?_
   refine tT ?_; refine callO 1001 ((copy_s ⟨q1, q2, q3, q4, q5⟩ link e0 e1 n0 n1 m z7 (hP6.mono hz7) hW).mono fun _ _ _ _ h => wldH_of h hW) rfl rfl rfl ?_; rintro v8 z8 A8 hz8 ⟨e0', e1', n0', n1', m', link', rfl, rfl, hR8, hW8⟩; refine gO ?_
   (((try simp only [seval, go_sem]);repeat((with_reducible first|refine vJ ?_|refine vK ?_);try simp only [seval, go_sem])); refine FinV.own 1001 rfl ?_; simp only [finE, finS, gt, look, SV.toV, SC.toV, allV, tupV, zq1, zq2, zq3, zq4, Nat.reduceAdd, Nat.reduceEqDiff, reduceCtorEq, if_true, if_false, reduceIte, Nat.succ_ne_self, true_and, zq5, zq7, zq8])
   exact ⟨⟨q1, q2, q3, q4, q5⟩, evs, _, _, link', m', e0', e1', n0', n1', rfl, rfl, hR8, hW8, ⟨_, _, _, rfl, hc7, hE.mono (Zc.trans' hz6 (Zc.trans' hz7 hz8)), hr7.mono hz8⟩, hc, fun h => by omega, hEv, by omega⟩
theorem drawWild_s (code : List Int) (v : Value) (z : Zc) (h : By z code v) (hl : code.length ≤ 1000000000) : PSpec Tryz.prog 15 [v] z fun u z' => ∃ (c : Cfg) (evs : List Evt) (B : Option Addr) (k : Nat), u = .tuple #[vCfg c, .slice B evs.length k] ∧ Sl eRep z' evs (.slice B evs.length k) ∧ CfgI c ∧ (∀ e ∈ evs, EvD e) ∧ evs.length ≤ 140 := by
 obtain ⟨A0, c0, rfl, hc0, hB0, hr0⟩ := h.form
 refine eP k15 ?_
 refine gO ?_
 refine tT ?_; refine callO 1000 (open_s code _ z h hl) rfl rfl rfl ?_; rintro u z1 A1 hz1 ⟨b, A, c, cd, rfl, rfl, hcd, hby⟩; refine gO ?_
 refine tT ?_; refine callW 1000 (pick_s b A c cd 0 2 z1 hby (by omega) hcd (by omega)) rfl rfl rfl rfl ?_; rintro u z3 A3 hz3 ⟨x, rfl, rfl, rfl, _, _, _⟩; refine gO ?_
 have hp : ∀ hard : Bool, DrawE (fun e => EvD e) hard true := fun hard => by cases hard; exact event_w0; exact event_w1
 refine tT ?_; refine callW 1000 (play_w _ (hp _) b A c cd z1 hby hcd) rfl rfl rfl rfl ?_; rintro u z2 A2 hz2 ⟨cf, evs, B, k, link, m, e0, e1, n0, n1, rfl, rfl, hR, hW, hE, hc, hm, hev, hlen⟩; refine gO ?_
 (first|refine fN ?_|exact fZ)
 exact ⟨cf, evs, B, k, rfl, hE, hc, hev, hlen⟩
theorem hear_w0 (b : Nat) (c : Cfg) (link : Int) (e0 e1 : End) (n0 n1 : List Msg) (msg : Msg) (rest : List Msg) (m : WM) (z : Zc) (hR : WldB z e0 e1 n0 n1 m) (hW : WldI ⟨c, [e0, e1], [n0, n1], link⟩) (hn : n0 = msg :: rest) (hE : IsAt m.E) (hN : IsAt m.N) (hA : IsAt m.n0.A) :
  Spec Tryz.prog 105 [.pointer (some ⟨b, 0, none⟩), .int .i64 0] z (wldP b c link e0 e1 n0 n1 m) fun _ z' A' => WldQ c (hear1 ⟨c, [e0, e1], [n0, n1], link⟩ 0) b z' A' := by
 have hI : EndI c e0 := hW.ends 0 (by omega)
 have hN0 : NetI n0 := hW.net 0 (by omega)
 have hN1 : NetI n1 := hW.net 1 (by omega)
 have hNk : NetI n0 := hW.net 0 (by omega)
 have h15 : msg.bytes.length ≤ 15 := hNk.2 msg (by rw [hn]; exact List.mem_cons_self)
 have hna : netAt ⟨c, [e0, e1], [n0, n1], link⟩ 0 = msg :: rest := hn
 have hh : hear1 ⟨c, [e0, e1], [n0, n1], link⟩ 0 = match frmRead msg.bytes with
   | none => setNet ⟨c, [e0, e1], [n0, n1], link⟩ 0 rest
   | some f => hearF (setNet ⟨c, [e0, e1], [n0, n1], link⟩ 0 rest) 0 f := by
  unfold hear1
  rw [hna]
  rfl
 rw [hh]
 cases hf : frmRead msg.bytes with
 | none => exact hear_no0 b c link e0 e1 n0 n1 msg rest m z hR (by omega) (by have := hNk.1; omega) hn hE hN hA hf
 | some f =>
  have hok := (frmRead_ok hf).1
  have hkd := (frmOk_bound hok).1
  have hm : c.mode = 1 ∨ c.mode = 2 := hW.cfg.mode
  have hx := hear_x0 b c link e0 e1 n0 n1 msg rest f m z hR hN0.1 hN1.1 h15 hn hf
  have hx1 : c.mode = 1 → ¬ (f.kind = 1 ∨ f.kind = 2) → hearF (setNet ⟨c, [e0, e1], [n0, n1], link⟩ 0 rest) 0 f = ⟨c, [e0, e1], [n0, n1].set 0 rest, link⟩ := fun h1 h2 => by
   unfold hearF
   simp only
   rw [if_pos (by exact h1), if_neg h2]
   rfl
  have hx2 : c.mode = 2 → ¬ (f.kind = 3 ∨ f.kind = 4) → hearF (setNet ⟨c, [e0, e1], [n0, n1], link⟩ 0 rest) 0 f = ⟨c, [e0, e1], [n0, n1].set 0 rest, link⟩ := fun h1 h2 => by
   unfold hearF
   simp only
   rw [if_neg (by show ¬ c.mode = 1; omega), if_neg (by omega), if_neg (by omega)]
   rfl
  simp only
  rcases hm with hm | hm
  ·by_cases h12 : f.kind = 1 ∨ f.kind = 2
   ·have e : hearF (setNet ⟨c, [e0, e1], [n0, n1], link⟩ 0 rest) 0 f = says ⟨c, [e0, e1].set 0 (hearN1 c e0 f), [n0, n1].set 0 rest, link⟩ 0 (rxHear c e0.rx f).2.2 := by
     unfold hearF
     simp only
     rw [if_pos (by exact hm), if_pos h12]
     rfl
    rw [e]
    rcases h12 with h | h
    ·exact hear_n1_0 b c link e0 e1 n0 n1 msg rest f m z hR hI hm hN0.1 hN1.1 h15 hn hf hok h hE hN hA
    ·exact hear_n2_0 b c link e0 e1 n0 n1 msg rest f m z hR hI hm hN0.1 hN1.1 h15 hn hf hok h hE hN hA
   ·rw [hx1 hm h12]
    exact hx (.inl ⟨hm, by omega⟩) hE hN hA
  ·by_cases h34 : f.kind = 3 ∨ f.kind = 4
   ·have e : hearF (setNet ⟨c, [e0, e1], [n0, n1], link⟩ 0 rest) 0 f = ⟨c, [e0, e1].set 0 (hearC c e0 f), [n0, n1].set 0 rest, link⟩ := by
     unfold hearF hearC
     simp only
     rw [if_neg (by show ¬ c.mode = 1; omega)]
     rcases h34 with h | h
     ·rw [if_neg (by omega), if_pos h, if_neg (by omega), if_pos h]
      rfl
     ·rw [if_pos h, if_pos h]
      rfl
    rw [e]
    rcases h34 with h | h
    ·exact hear_c3_0 b c link e0 e1 n0 n1 msg rest f m z hR hI hm hN0.1 hN1.1 h15 hn hf hok h hE hN hA
    ·exact hear_c4_0 b c link e0 e1 n0 n1 msg rest f m z hR hI hm hN0.1 hN1.1 h15 hn hf hok h hE hN hA
   ·rw [hx2 hm h34]
    exact hx (.inr ⟨hm, by omega⟩) hE hN hA
theorem step_w0 (b : Nat) (c : Cfg) (link : Int) (e0 e1 : End) (n0 n1 : List Msg) (m : WM) (ev : Evt) (v : Value) (z : Zc) (hv : By z ev.data v) (hR : WldB z e0 e1 n0 n1 m) (hW : WldI ⟨c, [e0, e1], [n0, n1], link⟩) (hd : ev.data.length ≤ 100) (hk : 1 ≤ ev.kind ∧ ev.kind ≤ 11) (hw : ev.who = 0) :
  Spec Tryz.prog 66 [.pointer (some ⟨b, 0, none⟩), vEvt ev v] z (wldP b c link e0 e1 n0 n1 m) fun _ z' A' => WldQ c (step false ⟨c, [e0, e1], [n0, n1], link⟩ ev) b z' A' := by
 have hI : EndI c e0 := hW.ends 0 (by omega)
 have hN0 : NetI n0 := hW.net 0 (by omega)
 have hN1 : NetI n1 := hW.net 1 (by omega)
 have hl : 0 ≤ link ∧ link ≤ 1 := hW.link
 have hm : c.mode = 1 ∨ c.mode = 2 := hW.cfg.mode
 have hn : netAt ⟨c, [e0, e1], [n0, n1], link⟩ 0 = n0 := rfl
 have e0' : ev.who.toNat = 0 := by omega
 unfold step
 rw [if_neg (by omega)]
 simp only [e0']
 by_cases h7 : ev.kind = 7
 ·rw [if_pos h7]
  rcases nil_or n0 with hn0 | ⟨msg, rest, hn0⟩
  ·rw [show hear1 ⟨c, [e0, e1], [n0, n1], link⟩ 0 = ⟨c, [e0, e1], [n0, n1], link⟩ by unfold hear1; rw [hn, hn0]]
   exact step_e7_0 b c link e0 e1 n0 n1 m ev v z hv hR hn0 hw h7
  ·exact step_h0 b c link e0 e1 n0 n1 msg rest m ev v z hv hR _ (fun h1 h2 h3 bb => hear_w0 bb c link e0 e1 n0 n1 msg rest m z hR hW hn0 h1 h2 h3) hn0 hw h7
 rw [if_neg h7]
 by_cases h8 : ev.kind = 8
 ·rw [if_pos h8, hn]
  rcases nil_or n0 with hn0 | ⟨msg, rest, hn0⟩
  ·have := step_e8_0 b c link e0 e1 n0 n1 m ev v z hv hR hn0 hw h8
   subst hn0
   exact this
  ·rw [show n0.drop 1 = rest by rw [hn0]; rfl]
   exact step_l0 b c link e0 e1 n0 n1 msg rest m ev v z hv hR hN0.1 hn0 hw h8
 rw [if_neg h8]
 by_cases h9 : ev.kind = 9
 ·rw [if_pos h9]
  split
  ·rename_i hq
   exact step_e9_0 b c link e0 e1 n0 n1 m ev v z hv hR hq hw h9
  ·rename_i msg rest hq
   exact step_b0 b c link e0 e1 n0 n1 msg rest m ev v z hv hR hN0 hq hw h9
 rw [if_neg h9]
 by_cases h10 : ev.kind = 10
 ·rw [if_pos h10]
  exact step_m0 b c link e0 e1 n0 n1 m ev v z hv hR hl hw h10
 rw [if_neg h10]
 by_cases h11 : ev.kind = 11
 ·rw [if_pos h11]
  exact step_i0 b c link e0 e1 n0 n1 m ev v z hv hd hR hN0.1 hw h11
 rw [if_neg h11]
 rcases hm with hm | hm
 ·rw [if_pos (by exact hm)]
  exact step_n0 b c link e0 e1 n0 n1 m ev v z hv hd hR hI hN0.1 hN1.1 hm hw (by omega)
 ·rw [if_neg (by show ¬ c.mode = 1; omega)]
  exact step_c0 b c link e0 e1 n0 n1 m ev v z hv hd hR hI hN0.1 hN1.1 hm hw (by omega)
theorem hear_w1 (b : Nat) (c : Cfg) (link : Int) (e0 e1 : End) (n0 n1 : List Msg) (msg : Msg) (rest : List Msg) (m : WM) (z : Zc) (hR : WldB z e0 e1 n0 n1 m) (hW : WldI ⟨c, [e0, e1], [n0, n1], link⟩) (hn : n1 = msg :: rest) (hE : IsAt m.E) (hN : IsAt m.N) (hA : IsAt m.n1.A) :
  Spec Tryz.prog 105 [.pointer (some ⟨b, 0, none⟩), .int .i64 1] z (wldP b c link e0 e1 n0 n1 m) fun _ z' A' => WldQ c (hear1 ⟨c, [e0, e1], [n0, n1], link⟩ 1) b z' A' := by
 have hI : EndI c e1 := hW.ends 1 (by omega)
 have hN0 : NetI n0 := hW.net 0 (by omega)
 have hN1 : NetI n1 := hW.net 1 (by omega)
 have hNk : NetI n1 := hW.net 1 (by omega)
 have h15 : msg.bytes.length ≤ 15 := hNk.2 msg (by rw [hn]; exact List.mem_cons_self)
 have hna : netAt ⟨c, [e0, e1], [n0, n1], link⟩ 1 = msg :: rest := hn
 have hh : hear1 ⟨c, [e0, e1], [n0, n1], link⟩ 1 = match frmRead msg.bytes with
   | none => setNet ⟨c, [e0, e1], [n0, n1], link⟩ 1 rest
   | some f => hearF (setNet ⟨c, [e0, e1], [n0, n1], link⟩ 1 rest) 1 f := by
  unfold hear1
  rw [hna]
  rfl
 rw [hh]
 cases hf : frmRead msg.bytes with
 | none => exact hear_no1 b c link e0 e1 n0 n1 msg rest m z hR (by omega) (by have := hNk.1; omega) hn hE hN hA hf
 | some f =>
  have hok := (frmRead_ok hf).1
  have hkd := (frmOk_bound hok).1
  have hm : c.mode = 1 ∨ c.mode = 2 := hW.cfg.mode
  have hx := hear_x1 b c link e0 e1 n0 n1 msg rest f m z hR hN0.1 hN1.1 h15 hn hf
  have hx1 : c.mode = 1 → ¬ (f.kind = 1 ∨ f.kind = 2) → hearF (setNet ⟨c, [e0, e1], [n0, n1], link⟩ 1 rest) 1 f = ⟨c, [e0, e1], [n0, n1].set 1 rest, link⟩ := fun h1 h2 => by
   unfold hearF
   simp only
   rw [if_pos (by exact h1), if_neg h2]
   rfl
  have hx2 : c.mode = 2 → ¬ (f.kind = 3 ∨ f.kind = 4) → hearF (setNet ⟨c, [e0, e1], [n0, n1], link⟩ 1 rest) 1 f = ⟨c, [e0, e1], [n0, n1].set 1 rest, link⟩ := fun h1 h2 => by
   unfold hearF
   simp only
   rw [if_neg (by show ¬ c.mode = 1; omega), if_neg (by omega), if_neg (by omega)]
   rfl
  simp only
  rcases hm with hm | hm
  ·by_cases h12 : f.kind = 1 ∨ f.kind = 2
   ·have e : hearF (setNet ⟨c, [e0, e1], [n0, n1], link⟩ 1 rest) 1 f = says ⟨c, [e0, e1].set 1 (hearN1 c e1 f), [n0, n1].set 1 rest, link⟩ 1 (rxHear c e1.rx f).2.2 := by
     unfold hearF
     simp only
     rw [if_pos (by exact hm), if_pos h12]
     rfl
    rw [e]
    rcases h12 with h | h
    ·exact hear_n1_1 b c link e0 e1 n0 n1 msg rest f m z hR hI hm hN0.1 hN1.1 h15 hn hf hok h hE hN hA
    ·exact hear_n2_1 b c link e0 e1 n0 n1 msg rest f m z hR hI hm hN0.1 hN1.1 h15 hn hf hok h hE hN hA
   ·rw [hx1 hm h12]
    exact hx (.inl ⟨hm, by omega⟩) hE hN hA
  ·by_cases h34 : f.kind = 3 ∨ f.kind = 4
   ·have e : hearF (setNet ⟨c, [e0, e1], [n0, n1], link⟩ 1 rest) 1 f = ⟨c, [e0, e1].set 1 (hearC c e1 f), [n0, n1].set 1 rest, link⟩ := by
     unfold hearF hearC
     simp only
     rw [if_neg (by show ¬ c.mode = 1; omega)]
     rcases h34 with h | h
     ·rw [if_neg (by omega), if_pos h, if_neg (by omega), if_pos h]
      rfl
     ·rw [if_pos h, if_pos h]
      rfl
    rw [e]
    rcases h34 with h | h
    ·exact hear_c3_1 b c link e0 e1 n0 n1 msg rest f m z hR hI hm hN0.1 hN1.1 h15 hn hf hok h hE hN hA
    ·exact hear_c4_1 b c link e0 e1 n0 n1 msg rest f m z hR hI hm hN0.1 hN1.1 h15 hn hf hok h hE hN hA
   ·rw [hx2 hm h34]
    exact hx (.inr ⟨hm, by omega⟩) hE hN hA
theorem step_w1 (b : Nat) (c : Cfg) (link : Int) (e0 e1 : End) (n0 n1 : List Msg) (m : WM) (ev : Evt) (v : Value) (z : Zc) (hv : By z ev.data v) (hR : WldB z e0 e1 n0 n1 m) (hW : WldI ⟨c, [e0, e1], [n0, n1], link⟩) (hd : ev.data.length ≤ 100) (hk : 1 ≤ ev.kind ∧ ev.kind ≤ 11) (hw : ev.who = 1) :
  Spec Tryz.prog 66 [.pointer (some ⟨b, 0, none⟩), vEvt ev v] z (wldP b c link e0 e1 n0 n1 m) fun _ z' A' => WldQ c (step false ⟨c, [e0, e1], [n0, n1], link⟩ ev) b z' A' := by
 have hI : EndI c e1 := hW.ends 1 (by omega)
 have hN0 : NetI n0 := hW.net 0 (by omega)
 have hN1 : NetI n1 := hW.net 1 (by omega)
 have hl : 0 ≤ link ∧ link ≤ 1 := hW.link
 have hm : c.mode = 1 ∨ c.mode = 2 := hW.cfg.mode
 have hn : netAt ⟨c, [e0, e1], [n0, n1], link⟩ 1 = n1 := rfl
 have e0' : ev.who.toNat = 1 := by omega
 unfold step
 rw [if_neg (by omega)]
 simp only [e0']
 by_cases h7 : ev.kind = 7
 ·rw [if_pos h7]
  rcases nil_or n1 with hn0 | ⟨msg, rest, hn0⟩
  ·rw [show hear1 ⟨c, [e0, e1], [n0, n1], link⟩ 1 = ⟨c, [e0, e1], [n0, n1], link⟩ by unfold hear1; rw [hn, hn0]]
   exact step_e7_1 b c link e0 e1 n0 n1 m ev v z hv hR hn0 hw h7
  ·exact step_h1 b c link e0 e1 n0 n1 msg rest m ev v z hv hR _ (fun h1 h2 h3 bb => hear_w1 bb c link e0 e1 n0 n1 msg rest m z hR hW hn0 h1 h2 h3) hn0 hw h7
 rw [if_neg h7]
 by_cases h8 : ev.kind = 8
 ·rw [if_pos h8, hn]
  rcases nil_or n1 with hn0 | ⟨msg, rest, hn0⟩
  ·have := step_e8_1 b c link e0 e1 n0 n1 m ev v z hv hR hn0 hw h8
   subst hn0
   exact this
  ·rw [show n1.drop 1 = rest by rw [hn0]; rfl]
   exact step_l1 b c link e0 e1 n0 n1 msg rest m ev v z hv hR hN1.1 hn0 hw h8
 rw [if_neg h8]
 by_cases h9 : ev.kind = 9
 ·rw [if_pos h9]
  split
  ·rename_i hq
   exact step_e9_1 b c link e0 e1 n0 n1 m ev v z hv hR hq hw h9
  ·rename_i msg rest hq
   exact step_b1 b c link e0 e1 n0 n1 msg rest m ev v z hv hR hN1 hq hw h9
 rw [if_neg h9]
 by_cases h10 : ev.kind = 10
 ·rw [if_pos h10]
  exact step_m1 b c link e0 e1 n0 n1 m ev v z hv hR hl hw h10
 rw [if_neg h10]
 by_cases h11 : ev.kind = 11
 ·rw [if_pos h11]
  exact step_i1 b c link e0 e1 n0 n1 m ev v z hv hd hR hN1.1 hw h11
 rw [if_neg h11]
 rcases hm with hm | hm
 ·rw [if_pos (by exact hm)]
  exact step_n1 b c link e0 e1 n0 n1 m ev v z hv hd hR hI hN0.1 hN1.1 hm hw (by omega)
 ·rw [if_neg (by show ¬ c.mode = 1; omega)]
  exact step_c1 b c link e0 e1 n0 n1 m ev v z hv hd hR hI hN0.1 hN1.1 hm hw (by omega)
def QW (w : Wld) (ev : Evt) : Prop := (1 ≤ ev.kind ∧ ev.kind ≤ 11) ∧ (ev.who = 0 ∨ ev.who = 1) ∧ ev.data.length ≤ 100
theorem stepP_W : StepP QW := fun b c link e0 e1 n0 n1 m ev v z hv hR hW hQ => hQ.2.1.elim (fun hw => step_w0 b c link e0 e1 n0 n1 m ev v z hv hR hW hQ.2.2 hQ.1 hw) fun hw => step_w1 b c link e0 e1 n0 n1 m ev v z hv hR hW hQ.2.2 hQ.1 hw
end Go.Proofs.YtllafcmkppmdgaaGreat
