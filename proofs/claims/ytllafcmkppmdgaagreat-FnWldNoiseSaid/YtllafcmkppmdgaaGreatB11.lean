/- Stores into ends. · One sends, or grants, for credits, by the reference. · The first message that is on its way, by the reference. · What comes is told, by the reference. · One hears a frame, for credits, by the reference. -/
import Derived.Test.YtllafcmkppmdgaaGreatB10
import Derived.Test.YtllafcmkppmdgaaGreatB6
namespace Go.Proofs.YtllafcmkppmdgaaGreat
open Go.RowKit
set_option linter.unusedVariables false
set_option linter.unusedSimpArgs false
set_option maxRecDepth 100000
set_option maxHeartbeats 1000000
theorem endsC_len (e0 e1 : End) (m0 m1 : EndM) : (endsC e0 e1 m0 m1).length = 56 := rfl
theorem endC_len (e : End) (m : EndM) : (endC e m).length = 28 := rfl
theorem ends_get0 {e0 e1 : End} {m0 m1 : EndM} {i : Nat} {u : Value} (h : (endC e0 m0)[i]? = some u) : (endsC e0 e1 m0 m1)[0 + i]? = some u := by
 have hi : i < (endC e0 m0).length := (List.getElem?_eq_some_iff.1 h).1
 rw [Nat.zero_add, endsC, List.getElem?_append_left hi]; exact h
theorem ends_get1 {e0 e1 : End} {m0 m1 : EndM} {i : Nat} {u : Value} (h : (endC e1 m1)[i]? = some u) : (endsC e0 e1 m0 m1)[28 + i]? = some u := by
 rw [endsC, List.getElem?_append_right (by rw [endC_len]; omega), endC_len, Nat.add_sub_cancel_left]; exact h
theorem ends_tx0 (e0 e1 : End) (m0 m1 : EndM) (next acked sent tries count : Int) (asks held dead : Bool) (fl qu : List Part) (fA qA : Option Addr) (fC qC : Nat) : putV (endsC e0 e1 m0 m1) 0 [.int .i64 next, .int .i64 acked, .slice fA fl.length fC, .int .i64 sent, .slice qA qu.length qC, .bool asks, .int .i64 tries, .bool held, .int .i64 count, .bool dead] = endsC { e0 with tx := ⟨next, acked, fl, sent, qu, asks, tries, held, count, dead⟩ } e1 { m0 with fA := fA, fC := fC, qA := qA, qC := qC } m1 := rfl
theorem ends_tx1 (e0 e1 : End) (m0 m1 : EndM) (next acked sent tries count : Int) (asks held dead : Bool) (fl qu : List Part) (fA qA : Option Addr) (fC qC : Nat) : putV (endsC e0 e1 m0 m1) 28 [.int .i64 next, .int .i64 acked, .slice fA fl.length fC, .int .i64 sent, .slice qA qu.length qC, .bool asks, .int .i64 tries, .bool held, .int .i64 count, .bool dead] = endsC e0 { e1 with tx := ⟨next, acked, fl, sent, qu, asks, tries, held, count, dead⟩ } m0 { m1 with fA := fA, fC := fC, qA := qA, qC := qC } := rfl
theorem ends_rx0 (e0 e1 : End) (m0 m1 : EndM) (expect count len : Int) (again busy dead : Bool) (got : List Int) (jA : Option Addr) (jC : Nat) : putV (endsC e0 e1 m0 m1) 10 [.int .i64 expect, .int .i64 count, .int .i64 len, .slice jA got.length jC, .bool again, .bool busy, .bool dead] = endsC { e0 with rx := ⟨expect, count, ⟨len, got⟩, again, busy, dead⟩ } e1 { m0 with jA := jA, jC := jC } m1 := rfl
theorem ends_rx1 (e0 e1 : End) (m0 m1 : EndM) (expect count len : Int) (again busy dead : Bool) (got : List Int) (jA : Option Addr) (jC : Nat) : putV (endsC e0 e1 m0 m1) 38 [.int .i64 expect, .int .i64 count, .int .i64 len, .slice jA got.length jC, .bool again, .bool busy, .bool dead] = endsC e0 { e1 with rx := ⟨expect, count, ⟨len, got⟩, again, busy, dead⟩ } m0 { m1 with jA := jA, jC := jC } := rfl
theorem ends_ctx0 (e0 e1 : End) (m0 m1 : EndM) (hav granted sent : Int) (dead : Bool) (qu : List Part) (cA : Option Addr) (cC : Nat) : putV (endsC e0 e1 m0 m1) 17 [.int .i64 hav, .slice cA qu.length cC, .int .i64 granted, .int .i64 sent, .bool dead] = endsC { e0 with ctx := ⟨hav, qu, granted, sent, dead⟩ } e1 { m0 with cA := cA, cC := cC } m1 := rfl
theorem ends_ctx1 (e0 e1 : End) (m0 m1 : EndM) (hav granted sent : Int) (dead : Bool) (qu : List Part) (cA : Option Addr) (cC : Nat) : putV (endsC e0 e1 m0 m1) 45 [.int .i64 hav, .slice cA qu.length cC, .int .i64 granted, .int .i64 sent, .bool dead] = endsC e0 { e1 with ctx := ⟨hav, qu, granted, sent, dead⟩ } m0 { m1 with cA := cA, cC := cC } := rfl
theorem ends_crx0 (e0 e1 : End) (m0 m1 : EndM) (out len : Int) (dead : Bool) (got : List Int) (kA : Option Addr) (kC : Nat) : putV (endsC e0 e1 m0 m1) 22 [.int .i64 out, .int .i64 len, .slice kA got.length kC, .bool dead] = endsC { e0 with crx := ⟨out, ⟨len, got⟩, dead⟩ } e1 { m0 with kA := kA, kC := kC } m1 := rfl
theorem ends_crx1 (e0 e1 : End) (m0 m1 : EndM) (out len : Int) (dead : Bool) (got : List Int) (kA : Option Addr) (kC : Nat) : putV (endsC e0 e1 m0 m1) 50 [.int .i64 out, .int .i64 len, .slice kA got.length kC, .bool dead] = endsC e0 { e1 with crx := ⟨out, ⟨len, got⟩, dead⟩ } m0 { m1 with kA := kA, kC := kC } := rfl
theorem ends_put0 (e0 e1 : End) (m0 m1 : EndM) (l : List (List Int)) (n c : Nat) (A : Option Addr) (h : n = l.length) : putV (endsC e0 e1 m0 m1) 26 [.slice A n c] = endsC { e0 with put := l } e1 { m0 with pA := A, pC := c } m1 := by subst h; rfl
theorem ends_put1 (e0 e1 : End) (m0 m1 : EndM) (l : List (List Int)) (n c : Nat) (A : Option Addr) (h : n = l.length) : putV (endsC e0 e1 m0 m1) 54 [.slice A n c] = endsC e0 { e1 with put := l } m0 { m1 with pA := A, pC := c } := by subst h; rfl
theorem ends_got0 (e0 e1 : End) (m0 m1 : EndM) (l : List (List Int)) (n c : Nat) (A : Option Addr) (h : n = l.length) : putV (endsC e0 e1 m0 m1) 27 [.slice A n c] = endsC { e0 with got := l } e1 { m0 with gA := A, gC := c } m1 := by subst h; rfl
theorem ends_got1 (e0 e1 : End) (m0 m1 : EndM) (l : List (List Int)) (n c : Nat) (A : Option Addr) (h : n = l.length) : putV (endsC e0 e1 m0 m1) 55 [.slice A n c] = endsC e0 { e1 with got := l } m0 { m1 with gA := A, gC := c } := by subst h; rfl
def putM (c : Cfg) (x : End) (sdu : List Int) : End := if c.mode = 1 then { x with tx := (txPut c x.tx sdu).1, put := if (txPut c x.tx sdu).2 then x.put ++ [sdu] else x.put } else { x with ctx := (crdPut c x.ctx sdu).1, put := if (crdPut c x.ctx sdu).2 then x.put ++ [sdu] else x.put }
theorem crdPutG_ok {c : Cfg} {t : CTx} {sdu : List Int} (h : CTxI c t) : crdPutG c t sdu = crdPut c t sdu := by unfold crdPutG; rw [if_pos (ctxOk_iff.2 h)]
theorem l9put_c0 (c : Cfg) (link : Int) (e0 e1 : End) (n0 n1 : List Msg) (m : WM) (sdu : List Int) (v : Value) (z : Zc) (hR : WldR z e0 e1 n0 n1 m) (hI : EndI c e0) (hv : By z sdu v) (hs : sdu.length ≤ 100000) (hm : c.mode = 2) (h60 : e0.put.length < 60) :
  Spec Tryz.prog 89 [wldV c link m, .int .i64 0, v] z (wldA e0 e1 n0 n1 m) fun u z' A' => ∃ e', e' = putM c e0 sdu ∧ WldH c ⟨c, [e0, e1].set 0 e', [n0, n1], link⟩ u z' A' := by
 obtain ⟨Av, kv, rfl, hkv, hBv, hrv⟩ := hv.form
 have hp8 := hI.ctx.small
 have hq24 := hI.ctx.queue
 refine eL kyR k89 ?_
 refine vsI.atR 10 rfl fun hE => ?_
 have hE := hE (by omega)
 refine gO ?_
 ((first | refine ⟨⟨by omega, hE⟩, ?_⟩ | refine ⟨hE, ?_⟩); (try simp only [seval, go_sem]))
 (refine ldF.agg (sz := 28) _ rfl (by exact .inr ⟨10, _, _, _, _, _, rfl, fun i u hu => ends_get0 hu⟩) ?_; simp only [seval, go_sem, endC]; refine gO ?_)
 (with_reducible refine condI.split (fun hg => ?_) (fun hg => ?_) <;> (try simp only [hg]) <;> (try simp only [seval, go_sem]))
 ·exfalso
  simp at hg
  omega
 ·refine gO ?_
  (with_reducible refine condI.split (fun hg => ?_) (fun hg => ?_) <;> (try simp only [hg]) <;> (try simp only [seval, go_sem]))
  ·exfalso
   simp [hm] at hg
  ·refine gO ?_
   have hc := crdput_s c e0.ctx sdu _ _ z hR.e0.cq (by omega) (fun p hp => by have := hp8 p hp; omega) hv hs
   simp only [crdPutG_ok hI.ctx] at hc
   refine tT ?_; refine callP (hc) rfl rfl ?_; rintro u z1 hz1 ⟨_, rfl, A3, k3, cs3, rfl, hk3, he3, hr3⟩; refine gO ?_
   have hR1 : WldR z1 e0 e1 n0 n1 m := ⟨hR.e0.mono hz1, hR.e1.mono hz1, hR.n0, hR.n1⟩
   ((first | refine ⟨⟨by omega, hE⟩, ?_⟩ | refine ⟨hE, ?_⟩); (try simp only [seval, go_sem]))
   (refine stoV_row 10 rfl rfl rfl rfl rfl rfl rfl (by rw [endsC_len]; simp) ?_; simp only [seval, go_sem, ends_ctx0]; refine gO ?_)
   have hput : putM c e0 sdu = { e0 with ctx := (crdPut c e0.ctx sdu).1, put := if (crdPut c e0.ctx sdu).2 then e0.put ++ [sdu] else e0.put } := by unfold putM; rw [if_neg (by omega)]
   (with_reducible refine condI.split (fun hg => ?_) (fun hg => ?_) <;> (try simp only [hg]) <;> (try simp only [seval, go_sem]))
   ·refine gO ?_
    refine aT ?_; (refine appM_empty 99 atyB rfl (by first | exact .inl ⟨_, rfl⟩ | exact .inr ⟨_, _, rfl⟩) rfl (hrv.mono hz1) (by first | omega | (simp <;> omega)) (bc_one _) (by omega) (fun A5 c5 z5 hz5 hc5 hr5 => ?_)); dsimp only at hz5; refine gO ?_
    refine aT ?_; (refine appM_newF 22 atyS rfl rfl rfl rfl rfl rfl rfl (by simp [Value.oneCell']) (by omega) (fun A6 c6 hc6 hat6 => ?_)); refine gO ?_
    ((first | refine ⟨⟨by omega, hE⟩, ?_⟩ | refine ⟨hE, ?_⟩); (try simp only [seval, go_sem]))
    (refine stoV_row 10 rfl rfl rfl rfl rfl rfl rfl (by rw [endsC_len]; simp) ?_; refine gO ?_)
    refine wS ?_
    rw [hput, hg, ends_put0 _ _ _ _ (e0.put ++ [sdu]) _ _ _ (by simp)]
    have hR5 : WldR z5 e0 e1 n0 n1 m := ⟨hR1.e0.mono hz5, hR1.e1.mono hz5, hR.n0, hR.n1⟩
    refine ⟨_, rfl, _, e1, n0, n1, { m with m0 := { m.m0 with cA := A3, cC := k3, pA := A6, pC := c6, pV := m.m0.pV ++ [.slice A5 sdu.length c5] } }, rfl, rfl, rfl, rfl, ?_, ?_⟩
    ·simp only [wldA, if_true, List.length_append, List.length_singleton]
     rfl
    ·exact ⟨{ hR5.e0 with cq := ⟨_, _, _, rfl, hk3, he3.mono hz5, hr3.mono hz5⟩, pu := hR5.e0.pu.append (Els.single (d := sduRep) ⟨_, rfl, By.mk hc5 hBv hr5⟩), pc := by simp; exact hc6 }, hR5.e1, hR.n0, hR.n1⟩
   ·refine gO ?_
    refine wS ?_
    rw [hput, hg]
    exact ⟨_, rfl, _, e1, n0, n1, { m with m0 := { m.m0 with cA := A3, cC := k3 } }, rfl, rfl, rfl, rfl, rfl, ⟨{ hR1.e0 with cq := ⟨_, _, _, rfl, hk3, he3, hr3⟩ }, hR1.e1, hR.n0, hR.n1⟩⟩
theorem l9put_c1 (c : Cfg) (link : Int) (e0 e1 : End) (n0 n1 : List Msg) (m : WM) (sdu : List Int) (v : Value) (z : Zc) (hR : WldR z e0 e1 n0 n1 m) (hI : EndI c e1) (hv : By z sdu v) (hs : sdu.length ≤ 100000) (hm : c.mode = 2) (h60 : e1.put.length < 60) :
  Spec Tryz.prog 89 [wldV c link m, .int .i64 1, v] z (wldA e0 e1 n0 n1 m) fun u z' A' => ∃ e', e' = putM c e1 sdu ∧ WldH c ⟨c, [e0, e1].set 1 e', [n0, n1], link⟩ u z' A' := by
 obtain ⟨Av, kv, rfl, hkv, hBv, hrv⟩ := hv.form
 have hp8 := hI.ctx.small
 have hq24 := hI.ctx.queue
 refine eL kyR k89 ?_
 refine vsI.atR 10 rfl fun hE => ?_
 have hE := hE (by omega)
 refine gO ?_
 ((first | refine ⟨⟨by omega, hE⟩, ?_⟩ | refine ⟨hE, ?_⟩); (try simp only [seval, go_sem]))
 (refine ldF.agg (sz := 28) _ rfl (by exact .inr ⟨10, _, _, _, _, _, rfl, fun i u hu => ends_get1 hu⟩) ?_; simp only [seval, go_sem, endC]; refine gO ?_)
 (with_reducible refine condI.split (fun hg => ?_) (fun hg => ?_) <;> (try simp only [hg]) <;> (try simp only [seval, go_sem]))
 ·exfalso
  simp at hg
  omega
 ·refine gO ?_
  (with_reducible refine condI.split (fun hg => ?_) (fun hg => ?_) <;> (try simp only [hg]) <;> (try simp only [seval, go_sem]))
  ·exfalso
   simp [hm] at hg
  ·refine gO ?_
   have hc := crdput_s c e1.ctx sdu _ _ z hR.e1.cq (by omega) (fun p hp => by have := hp8 p hp; omega) hv hs
   simp only [crdPutG_ok hI.ctx] at hc
   refine tT ?_; refine callP (hc) rfl rfl ?_; rintro u z1 hz1 ⟨_, rfl, A3, k3, cs3, rfl, hk3, he3, hr3⟩; refine gO ?_
   have hR1 : WldR z1 e0 e1 n0 n1 m := ⟨hR.e0.mono hz1, hR.e1.mono hz1, hR.n0, hR.n1⟩
   ((first | refine ⟨⟨by omega, hE⟩, ?_⟩ | refine ⟨hE, ?_⟩); (try simp only [seval, go_sem]))
   (refine stoV_row 10 rfl rfl rfl rfl rfl rfl rfl (by rw [endsC_len]; simp) ?_; simp only [seval, go_sem, ends_ctx1]; refine gO ?_)
   have hput : putM c e1 sdu = { e1 with ctx := (crdPut c e1.ctx sdu).1, put := if (crdPut c e1.ctx sdu).2 then e1.put ++ [sdu] else e1.put } := by unfold putM; rw [if_neg (by omega)]
   (with_reducible refine condI.split (fun hg => ?_) (fun hg => ?_) <;> (try simp only [hg]) <;> (try simp only [seval, go_sem]))
   ·refine gO ?_
    refine aT ?_; (refine appM_empty 99 atyB rfl (by first | exact .inl ⟨_, rfl⟩ | exact .inr ⟨_, _, rfl⟩) rfl (hrv.mono hz1) (by first | omega | (simp <;> omega)) (bc_one _) (by omega) (fun A5 c5 z5 hz5 hc5 hr5 => ?_)); dsimp only at hz5; refine gO ?_
    refine aT ?_; (refine appM_newF 32 atyS rfl rfl rfl rfl rfl rfl rfl (by simp [Value.oneCell']) (by omega) (fun A6 c6 hc6 hat6 => ?_)); refine gO ?_
    ((first | refine ⟨⟨by omega, hE⟩, ?_⟩ | refine ⟨hE, ?_⟩); (try simp only [seval, go_sem]))
    (refine stoV_row 10 rfl rfl rfl rfl rfl rfl rfl (by rw [endsC_len]; simp) ?_; refine gO ?_)
    refine wS ?_
    rw [hput, hg, ends_put1 _ _ _ _ (e1.put ++ [sdu]) _ _ _ (by simp)]
    have hR5 : WldR z5 e0 e1 n0 n1 m := ⟨hR1.e0.mono hz5, hR1.e1.mono hz5, hR.n0, hR.n1⟩
    refine ⟨_, rfl, e0, _, n0, n1, { m with m1 := { m.m1 with cA := A3, cC := k3, pA := A6, pC := c6, pV := m.m1.pV ++ [.slice A5 sdu.length c5] } }, rfl, rfl, rfl, rfl, ?_, ?_⟩
    ·simp only [wldA, if_true, List.length_append, List.length_singleton]
     rfl
    ·exact ⟨hR5.e0, { hR5.e1 with cq := ⟨_, _, _, rfl, hk3, he3.mono hz5, hr3.mono hz5⟩, pu := hR5.e1.pu.append (Els.single (d := sduRep) ⟨_, rfl, By.mk hc5 hBv hr5⟩), pc := by simp; exact hc6 }, hR.n0, hR.n1⟩
   ·refine gO ?_
    refine wS ?_
    rw [hput, hg]
    exact ⟨_, rfl, e0, _, n0, n1, { m with m1 := { m.m1 with cA := A3, cC := k3 } }, rfl, rfl, rfl, rfl, rfl, ⟨hR1.e0, { hR1.e1 with cq := ⟨_, _, _, rfl, hk3, he3, hr3⟩ }, hR.n0, hR.n1⟩⟩
theorem pieceFrm_ok {p : Part} (h : partOk p = true) : frmOk ⟨3, 0, 0, false, false, 0, p.seg, p.len, p.data⟩ = true := by
 have h' : pieceOk p.seg p.len p.data.length = true := h
 simp [frmOk, h']
theorem grantFrm_ok {n : Int} (h : 1 ≤ n ∧ n ≤ 255) : frmOk ⟨4, 0, 0, false, false, 0, 0, n, []⟩ = true := by
 simp [frmOk, inB, h.1, h.2]
theorem crdSend_frm {c : Cfg} {t : CTx} {f : Frm} (h : CTxI c t) (hf : (crdSend t).2 = some f) : frmOk f = true ∧ f.data.length ≤ 8 := by
 unfold crdSend at hf
 split at hf
 ·cases hf
 ·rename_i p q hq
  split at hf
  ·cases hf
  ·injection hf with hf
   subst hf
   have := h.qu p (by rw [hq]; simp)
   exact ⟨pieceFrm_ok this.1, by have := h.cfg.mps; simp only; omega⟩
theorem crdGrant_frm {r : CRx} {f : Frm} (h : CRxI r) (hf : (crdGrant r).2 = some f) : frmOk f = true ∧ f.data.length ≤ 8 := by
 unfold crdGrant at hf
 split at hf
 ·cases hf
 ·rename_i g
  injection hf with hf
  subst hf
  have := h.1
  exact ⟨grantFrm_ok (by simp only [not_or] at g; omega), by simp⟩
theorem crdSendG_ok {c : Cfg} {t : CTx} (h : CTxI c t) : crdSendG c t = crdSend t := by unfold crdSendG; rw [if_pos (ctxOk_iff.2 h)]
theorem crdGrantG_ok {r : CRx} (h : CRxI r) : crdGrantG r = crdGrant r := by unfold crdGrantG; rw [if_pos (crxOk_iff.2 h)]
theorem wr10 : IntKind.i64.wrap 1 = 1 := rfl
theorem wr11 : IntKind.i64.wrap 0 = 0 := rfl
theorem l9send_c0 (c : Cfg) (link : Int) (e0 e1 : End) (n0 n1 : List Msg) (m : WM) (z : Zc) (hR : WldR z e0 e1 n0 n1 m) (hI : EndI c e0) (hm : c.mode = 2) (h30 : n1.length ≤ 30) :
  Spec Tryz.prog 90 [wldV c link m, .int .i64 0] z (wldA e0 e1 n0 n1 m) (WldH c (if n1.length < 30 then sayO ⟨c, [{ e0 with ctx := (crdSend e0.ctx).1 }, e1], [n0, n1], link⟩ 0 (crdSend e0.ctx).2 else ⟨c, [e0, e1], [n0, n1], link⟩)) := by
 have hp8 := hI.ctx.small
 have hq24 := hI.ctx.queue
 refine eL kyR k90 ?_
 refine vsI.atR 10 rfl fun hE => ?_
 have hE := hE (by omega)
 refine vsI.atR 11 rfl fun hN => ?_
 have hN := hN (by omega)
 refine gO ?_
 ((first | refine ⟨⟨by omega, hE⟩, ?_⟩ | refine ⟨hE, ?_⟩); (try simp only [seval, go_sem]))
 (refine ldF.agg (sz := 28) _ rfl (by exact .inr ⟨10, _, _, _, _, _, rfl, fun i u hu => ends_get0 hu⟩) ?_; simp only [seval, go_sem, endC]; refine gO ?_)
 simp only [wr10]
 simp only [seval, go_sem]
 ((first | refine ⟨⟨by omega, hN⟩, ?_⟩ | refine ⟨hN, ?_⟩); (try simp only [seval, go_sem]))
 (refine ldF.one _ (RdS.cell 11 rfl rfl) ?_; refine gO ?_)
 (with_reducible refine condI.split (fun hg => ?_) (fun hg => ?_) <;> (try simp only [hg]) <;> (try simp only [seval, go_sem]))
 ·rw [if_neg (by simp at hg; omega)]
  refine gO ?_
  refine wS ?_
  exact ⟨e0, e1, n0, n1, m, rfl, rfl, rfl, rfl, rfl, hR⟩
 ·rw [if_pos (by simp at hg; omega)]
  refine gO ?_
  (with_reducible refine condI.split (fun hg => ?_) (fun hg => ?_) <;> (try simp only [hg]) <;> (try simp only [seval, go_sem]))
  ·exfalso
   simp [hm] at hg
  ·refine gO ?_
   have hc := crdsend_s c e0.ctx _ z hR.e0.cq (by omega) (fun p hp => by have := hp8 p hp; omega)
   simp only [crdSendG_ok hI.ctx] at hc
   refine tT ?_; refine callP (hc) rfl rfl ?_; rintro u z1 hz1 ⟨_, _, _, rfl, ⟨A3, k3, cs3, rfl, hk3, he3, hr3⟩, _, rfl, ⟨Ax, kx, csx, rfl, hkx, hex, hrx⟩, rfl⟩; refine gO ?_
   have hR1 : WldR z1 e0 e1 n0 n1 m := ⟨hR.e0.mono hz1, hR.e1.mono hz1, hR.n0, hR.n1⟩
   ((first | refine ⟨⟨by omega, hE⟩, ?_⟩ | refine ⟨hE, ?_⟩); (try simp only [seval, go_sem]))
   (refine stoV_row 10 rfl rfl rfl rfl rfl rfl rfl (by rw [endsC_len]; simp) ?_; simp only [seval, go_sem, ends_ctx0]; refine gO ?_)
   have hR2 : WldR z1 { e0 with ctx := (crdSend e0.ctx).1 } e1 n0 n1 { m with m0 := { m.m0 with cA := A3, cC := k3 } } := ⟨{ hR1.e0 with cq := ⟨_, _, _, rfl, hk3, he3, hr3⟩ }, hR1.e1, hR.n0, hR.n1⟩
   cases hs : (crdSend e0.ctx).2 with
   | none =>
    simp only [hs, Option.isSome_none, Option.getD_none]
    simp only [seval, go_sem]
    refine gO ?_
    refine wS ?_
    exact ⟨_, _, n0, n1, { m with m0 := { m.m0 with cA := A3, cC := k3 } }, rfl, rfl, rfl, rfl, rfl, hR2⟩
   | some f =>
    obtain ⟨hf, hfl⟩ := crdSend_frm hI.ctx hs
    simp only [hs, Option.isSome_some, Option.getD_some] at hex hrx hkx ⊢
    simp only [seval, go_sem]
    refine gO ?_
    simp only [wr10]
    refine wT ?_
    refine tT ?_; refine callW 999 (l9way1 c link { e0 with ctx := (crdSend e0.ctx).1 } e1 n0 n1 { m with m0 := { m.m0 with cA := A3, cC := k3 } } f (.slice Ax f.data.length kx) z1 hR2 (by omega) hf ⟨Ax, kx, csx, rfl, hkx, hex, hrx⟩ (by omega)) rfl rfl rfl rfl ?_; rintro v z2 A' hz2 ⟨f0, f1, g0, g1, m', hw1, hw2, hw3, rfl, rfl, hR3⟩; refine gO ?_
    refine fP ?_
    exact ⟨f0, f1, g0, g1, m', hw1, hw2, hw3, rfl, rfl, hR3⟩
theorem l9send_c1 (c : Cfg) (link : Int) (e0 e1 : End) (n0 n1 : List Msg) (m : WM) (z : Zc) (hR : WldR z e0 e1 n0 n1 m) (hI : EndI c e1) (hm : c.mode = 2) (h30 : n0.length ≤ 30) :
  Spec Tryz.prog 90 [wldV c link m, .int .i64 1] z (wldA e0 e1 n0 n1 m) (WldH c (if n0.length < 30 then sayO ⟨c, [e0, { e1 with ctx := (crdSend e1.ctx).1 }], [n0, n1], link⟩ 1 (crdSend e1.ctx).2 else ⟨c, [e0, e1], [n0, n1], link⟩)) := by
 have hp8 := hI.ctx.small
 have hq24 := hI.ctx.queue
 refine eL kyR k90 ?_
 refine vsI.atR 10 rfl fun hE => ?_
 have hE := hE (by omega)
 refine vsI.atR 11 rfl fun hN => ?_
 have hN := hN (by omega)
 refine gO ?_
 ((first | refine ⟨⟨by omega, hE⟩, ?_⟩ | refine ⟨hE, ?_⟩); (try simp only [seval, go_sem]))
 (refine ldF.agg (sz := 28) _ rfl (by exact .inr ⟨10, _, _, _, _, _, rfl, fun i u hu => ends_get1 hu⟩) ?_; simp only [seval, go_sem, endC]; refine gO ?_)
 simp only [wr11]
 simp only [seval, go_sem]
 ((first | refine ⟨⟨by omega, hN⟩, ?_⟩ | refine ⟨hN, ?_⟩); (try simp only [seval, go_sem]))
 (refine ldF.one _ (RdS.cell 11 rfl rfl) ?_; refine gO ?_)
 (with_reducible refine condI.split (fun hg => ?_) (fun hg => ?_) <;> (try simp only [hg]) <;> (try simp only [seval, go_sem]))
 ·rw [if_neg (by simp at hg; omega)]
  refine gO ?_
  refine wS ?_
  exact ⟨e0, e1, n0, n1, m, rfl, rfl, rfl, rfl, rfl, hR⟩
 ·rw [if_pos (by simp at hg; omega)]
  refine gO ?_
  (with_reducible refine condI.split (fun hg => ?_) (fun hg => ?_) <;> (try simp only [hg]) <;> (try simp only [seval, go_sem]))
  ·exfalso
   simp [hm] at hg
  ·refine gO ?_
   have hc := crdsend_s c e1.ctx _ z hR.e1.cq (by omega) (fun p hp => by have := hp8 p hp; omega)
   simp only [crdSendG_ok hI.ctx] at hc
   refine tT ?_; refine callP (hc) rfl rfl ?_; rintro u z1 hz1 ⟨_, _, _, rfl, ⟨A3, k3, cs3, rfl, hk3, he3, hr3⟩, _, rfl, ⟨Ax, kx, csx, rfl, hkx, hex, hrx⟩, rfl⟩; refine gO ?_
   have hR1 : WldR z1 e0 e1 n0 n1 m := ⟨hR.e0.mono hz1, hR.e1.mono hz1, hR.n0, hR.n1⟩
   ((first | refine ⟨⟨by omega, hE⟩, ?_⟩ | refine ⟨hE, ?_⟩); (try simp only [seval, go_sem]))
   (refine stoV_row 10 rfl rfl rfl rfl rfl rfl rfl (by rw [endsC_len]; simp) ?_; simp only [seval, go_sem, ends_ctx1]; refine gO ?_)
   have hR2 : WldR z1 e0 { e1 with ctx := (crdSend e1.ctx).1 } n0 n1 { m with m1 := { m.m1 with cA := A3, cC := k3 } } := ⟨hR1.e0, { hR1.e1 with cq := ⟨_, _, _, rfl, hk3, he3, hr3⟩ }, hR.n0, hR.n1⟩
   cases hs : (crdSend e1.ctx).2 with
   | none =>
    simp only [hs, Option.isSome_none, Option.getD_none]
    simp only [seval, go_sem]
    refine gO ?_
    refine wS ?_
    exact ⟨_, _, n0, n1, { m with m1 := { m.m1 with cA := A3, cC := k3 } }, rfl, rfl, rfl, rfl, rfl, hR2⟩
   | some f =>
    obtain ⟨hf, hfl⟩ := crdSend_frm hI.ctx hs
    simp only [hs, Option.isSome_some, Option.getD_some] at hex hrx hkx ⊢
    simp only [seval, go_sem]
    refine gO ?_
    simp only [wr11]
    refine wT ?_
    refine tT ?_; refine callW 999 (l9way0 c link e0 { e1 with ctx := (crdSend e1.ctx).1 } n0 n1 { m with m1 := { m.m1 with cA := A3, cC := k3 } } f (.slice Ax f.data.length kx) z1 hR2 (by omega) hf ⟨Ax, kx, csx, rfl, hkx, hex, hrx⟩ (by omega)) rfl rfl rfl rfl ?_; rintro v z2 A' hz2 ⟨f0, f1, g0, g1, m', hw1, hw2, hw3, rfl, rfl, hR3⟩; refine gO ?_
    refine fP ?_
    exact ⟨f0, f1, g0, g1, m', hw1, hw2, hw3, rfl, rfl, hR3⟩
abbrev vEvt (e : Evt) (v : Value) : Value := .agg #[.int .i64 e.kind, .int .i64 e.who, .int .i64 e.at_, .int .i64 e.v, v]
theorem l9say_c0 (c : Cfg) (link : Int) (e0 e1 : End) (n0 n1 : List Msg) (m : WM) (ev : Evt) (v : Value) (z : Zc) (hv : By z ev.data v) (hR : WldR z e0 e1 n0 n1 m) (hI : EndI c e0) (hm : c.mode = 2) (h30 : n1.length ≤ 30) (hw : ev.who = 0) (hk : ev.kind = 4 ∨ ev.kind = 5 ∨ ev.kind = 6) :
  Spec Tryz.prog 92 [wldV c link m, vEvt ev v] z (wldA e0 e1 n0 n1 m) (WldH c (if ev.kind = 6 ∧ n1.length < 30 then sayO ⟨c, [{ e0 with crx := (crdGrant e0.crx).1 }, e1], [n0, n1], link⟩ 0 (crdGrant e0.crx).2 else ⟨c, [e0, e1], [n0, n1], link⟩)) := by
 obtain ⟨kind, who, at_, vv, data⟩ := ev
 dsimp only at *
 subst hw
 obtain ⟨mode, win, mps, mtu, tri⟩ := c
 dsimp only at hm
 subst hm
 obtain ⟨Av, kv, rfl, hkv, hBv, hrv⟩ := hv.form
 have hj23 := hI.crx.2.le
 refine eL kyR k92 ?_
 refine vsI.atR 10 rfl fun hE => ?_
 have hE := hE (by omega)
 refine vsI.atR 11 rfl fun hN => ?_
 have hN := hN (by omega)
 refine gO ?_
 ((first | refine ⟨⟨by omega, hE⟩, ?_⟩ | refine ⟨hE, ?_⟩); (try simp only [seval, go_sem]))
 (refine ldF.agg (sz := 28) _ rfl (by exact .inr ⟨10, _, _, _, _, _, rfl, fun i u hu => ends_get0 hu⟩) ?_; simp only [seval, go_sem, endC]; refine gO ?_)
 rcases hk with rfl | rfl | rfl
 ·simp only [seval, go_sem]
  refine gO ?_
  refine wS ?_
  exact ⟨e0, e1, n0, n1, m, rfl, rfl, rfl, rfl, rfl, hR⟩
 ·simp only [seval, go_sem]
  refine gO ?_
  refine wS ?_
  exact ⟨e0, e1, n0, n1, m, rfl, rfl, rfl, rfl, rfl, hR⟩
 ·simp only [seval, go_sem]
  refine gO ?_
  simp only [wr10]
  simp only [seval, go_sem]
  ((first | refine ⟨⟨by omega, hN⟩, ?_⟩ | refine ⟨hN, ?_⟩); (try simp only [seval, go_sem]))
  (refine ldF.one _ (RdS.cell 11 rfl rfl) ?_; refine gO ?_)
  (with_reducible refine condI.split (fun hg => ?_) (fun hg => ?_) <;> (try simp only [hg]) <;> (try simp only [seval, go_sem]))
  ·have h3 : n1.length < 30 := by have := of_decide_eq_true hg; omega
   rw [if_pos h3]
   refine gO ?_
   have hc := crdgrant_s e0.crx _ z hR.e0.kj (by omega) (by have := hI.crx.2; rcases this with h | h <;> omega)
   simp only [crdGrantG_ok hI.crx] at hc
   refine tT ?_; refine callP (hc) rfl rfl ?_; rintro u z1 hz1 ⟨_, _, _, rfl, ⟨A3, k3, cs3, rfl, hk3, he3, hr3⟩, _, rfl, ⟨Ax, kx, csx, rfl, hkx, hex, hrx⟩, rfl⟩; refine gO ?_
   have h3 : By z1 (crdGrant e0.crx).1.join.got (.slice A3 (crdGrant e0.crx).1.join.got.length k3) := ⟨_, _, _, rfl, hk3, he3, hr3⟩
   have hR1 : WldR z1 e0 e1 n0 n1 m := ⟨hR.e0.mono hz1, hR.e1.mono hz1, hR.n0, hR.n1⟩
   ((first | refine ⟨⟨by omega, hE⟩, ?_⟩ | refine ⟨hE, ?_⟩); (try simp only [seval, go_sem]))
   (refine stoV_row 10 rfl rfl rfl rfl rfl rfl rfl (by rw [endsC_len]; simp) ?_; simp only [seval, go_sem, ends_crx0]; refine gO ?_)
   have hR2 : WldR z1 { e0 with crx := (crdGrant e0.crx).1 } e1 n0 n1 { m with m0 := { m.m0 with kA := A3, kC := k3 } } := ⟨{ hR1.e0 with kj := h3 }, hR1.e1, hR.n0, hR.n1⟩
   cases hs : (crdGrant e0.crx).2 with
   | none =>
    simp only [hs, Option.isSome_none, Option.getD_none]
    simp only [seval, go_sem]
    refine gO ?_
    refine wS ?_
    exact ⟨_, _, n0, n1, { m with m0 := { m.m0 with kA := A3, kC := k3 } }, rfl, rfl, rfl, rfl, rfl, hR2⟩
   | some f =>
    obtain ⟨hf, hfl⟩ := crdGrant_frm hI.crx hs
    simp only [hs, Option.isSome_some, Option.getD_some] at hex hrx hkx ⊢
    simp only [seval, go_sem]
    refine gO ?_
    simp only [wr10]
    refine wT ?_
    refine tT ?_; refine callW 999 (l9way1 ⟨2, win, mps, mtu, tri⟩ link { e0 with crx := (crdGrant e0.crx).1 } e1 n0 n1 { m with m0 := { m.m0 with kA := A3, kC := k3 } } f (.slice Ax f.data.length kx) z1 hR2 (by omega) hf ⟨Ax, kx, csx, rfl, hkx, hex, hrx⟩ (by omega)) rfl rfl rfl rfl ?_; rintro v z2 A' hz2 ⟨f0, f1, g0, g1, m', hw1, hw2, hw3, rfl, rfl, hR3⟩; refine gO ?_
    refine fP ?_
    exact ⟨f0, f1, g0, g1, m', hw1, hw2, hw3, rfl, rfl, hR3⟩
  ·have h3 : ¬ n1.length < 30 := by have := of_decide_eq_false hg; omega
   rw [if_neg h3]
   refine gO ?_
   refine wS ?_
   exact ⟨e0, e1, n0, n1, m, rfl, rfl, rfl, rfl, rfl, hR⟩
theorem l9say_c1 (c : Cfg) (link : Int) (e0 e1 : End) (n0 n1 : List Msg) (m : WM) (ev : Evt) (v : Value) (z : Zc) (hv : By z ev.data v) (hR : WldR z e0 e1 n0 n1 m) (hI : EndI c e1) (hm : c.mode = 2) (h30 : n0.length ≤ 30) (hw : ev.who = 1) (hk : ev.kind = 4 ∨ ev.kind = 5 ∨ ev.kind = 6) :
  Spec Tryz.prog 92 [wldV c link m, vEvt ev v] z (wldA e0 e1 n0 n1 m) (WldH c (if ev.kind = 6 ∧ n0.length < 30 then sayO ⟨c, [e0, { e1 with crx := (crdGrant e1.crx).1 }], [n0, n1], link⟩ 1 (crdGrant e1.crx).2 else ⟨c, [e0, e1], [n0, n1], link⟩)) := by
 obtain ⟨kind, who, at_, vv, data⟩ := ev
 dsimp only at *
 subst hw
 obtain ⟨mode, win, mps, mtu, tri⟩ := c
 dsimp only at hm
 subst hm
 obtain ⟨Av, kv, rfl, hkv, hBv, hrv⟩ := hv.form
 have hj23 := hI.crx.2.le
 refine eL kyR k92 ?_
 refine vsI.atR 10 rfl fun hE => ?_
 have hE := hE (by omega)
 refine vsI.atR 11 rfl fun hN => ?_
 have hN := hN (by omega)
 refine gO ?_
 ((first | refine ⟨⟨by omega, hE⟩, ?_⟩ | refine ⟨hE, ?_⟩); (try simp only [seval, go_sem]))
 (refine ldF.agg (sz := 28) _ rfl (by exact .inr ⟨10, _, _, _, _, _, rfl, fun i u hu => ends_get1 hu⟩) ?_; simp only [seval, go_sem, endC]; refine gO ?_)
 rcases hk with rfl | rfl | rfl
 ·simp only [seval, go_sem]
  refine gO ?_
  refine wS ?_
  exact ⟨e0, e1, n0, n1, m, rfl, rfl, rfl, rfl, rfl, hR⟩
 ·simp only [seval, go_sem]
  refine gO ?_
  refine wS ?_
  exact ⟨e0, e1, n0, n1, m, rfl, rfl, rfl, rfl, rfl, hR⟩
 ·simp only [seval, go_sem]
  refine gO ?_
  simp only [wr11]
  simp only [seval, go_sem]
  ((first | refine ⟨⟨by omega, hN⟩, ?_⟩ | refine ⟨hN, ?_⟩); (try simp only [seval, go_sem]))
  (refine ldF.one _ (RdS.cell 11 rfl rfl) ?_; refine gO ?_)
  (with_reducible refine condI.split (fun hg => ?_) (fun hg => ?_) <;> (try simp only [hg]) <;> (try simp only [seval, go_sem]))
  ·have h3 : n0.length < 30 := by have := of_decide_eq_true hg; omega
   rw [if_pos h3]
   refine gO ?_
   have hc := crdgrant_s e1.crx _ z hR.e1.kj (by omega) (by have := hI.crx.2; rcases this with h | h <;> omega)
   simp only [crdGrantG_ok hI.crx] at hc
   refine tT ?_; refine callP (hc) rfl rfl ?_; rintro u z1 hz1 ⟨_, _, _, rfl, ⟨A3, k3, cs3, rfl, hk3, he3, hr3⟩, _, rfl, ⟨Ax, kx, csx, rfl, hkx, hex, hrx⟩, rfl⟩; refine gO ?_
   have h3 : By z1 (crdGrant e1.crx).1.join.got (.slice A3 (crdGrant e1.crx).1.join.got.length k3) := ⟨_, _, _, rfl, hk3, he3, hr3⟩
   have hR1 : WldR z1 e0 e1 n0 n1 m := ⟨hR.e0.mono hz1, hR.e1.mono hz1, hR.n0, hR.n1⟩
   ((first | refine ⟨⟨by omega, hE⟩, ?_⟩ | refine ⟨hE, ?_⟩); (try simp only [seval, go_sem]))
   (refine stoV_row 10 rfl rfl rfl rfl rfl rfl rfl (by rw [endsC_len]; simp) ?_; simp only [seval, go_sem, ends_crx1]; refine gO ?_)
   have hR2 : WldR z1 e0 { e1 with crx := (crdGrant e1.crx).1 } n0 n1 { m with m1 := { m.m1 with kA := A3, kC := k3 } } := ⟨hR1.e0, { hR1.e1 with kj := h3 }, hR.n0, hR.n1⟩
   cases hs : (crdGrant e1.crx).2 with
   | none =>
    simp only [hs, Option.isSome_none, Option.getD_none]
    simp only [seval, go_sem]
    refine gO ?_
    refine wS ?_
    exact ⟨_, _, n0, n1, { m with m1 := { m.m1 with kA := A3, kC := k3 } }, rfl, rfl, rfl, rfl, rfl, hR2⟩
   | some f =>
    obtain ⟨hf, hfl⟩ := crdGrant_frm hI.crx hs
    simp only [hs, Option.isSome_some, Option.getD_some] at hex hrx hkx ⊢
    simp only [seval, go_sem]
    refine gO ?_
    simp only [wr11]
    refine wT ?_
    refine tT ?_; refine callW 999 (l9way0 ⟨2, win, mps, mtu, tri⟩ link e0 { e1 with crx := (crdGrant e1.crx).1 } n0 n1 { m with m1 := { m.m1 with kA := A3, kC := k3 } } f (.slice Ax f.data.length kx) z1 hR2 (by omega) hf ⟨Ax, kx, csx, rfl, hkx, hex, hrx⟩ (by omega)) rfl rfl rfl rfl ?_; rintro v z2 A' hz2 ⟨f0, f1, g0, g1, m', hw1, hw2, hw3, rfl, rfl, hR3⟩; refine gO ?_
    refine fP ?_
    exact ⟨f0, f1, g0, g1, m', hw1, hw2, hw3, rfl, rfl, hR3⟩
  ·have h3 : ¬ n0.length < 30 := by have := of_decide_eq_false hg; omega
   rw [if_neg h3]
   refine gO ?_
   refine wS ?_
   exact ⟨e0, e1, n0, n1, m, rfl, rfl, rfl, rfl, rfl, hR⟩
theorem stoV.toRow {P : Program} {x y : Operand} {n : Nat} {d : Option Nat} {s : St} {K : St → Prop} (k j : Nat) {e sz m : Nat} {cs : List SC} {vs : List Value} (hk : look j s.L = some (.cells e cs)) (hv : allV cs = some vs) (hl : vs.length = m * sz) (hm : m ≤ 1000000000) (h : ∀ b, stoV P x y n d (rowSt s k j b e sz m vs) K) : stoV P x y n d s K := fun o h1 h2 => opT.toRow k j hk hv hl hm fun b => h b o h1 h2
theorem netV_one : ∀ {l : List Msg} {ms : List (Option Addr × Nat)} {u : Value}, u ∈ netV l ms → u.oneCell' = true
 | [], [], u, h => by simp [netV] at h
 | [], _ :: _, u, h => by simp [netV] at h
 | _ :: _, [], u, h => by simp [netV] at h
 | m :: l, (a, c) :: ms, u, h => by
  simp only [netV, List.mem_cons] at h
  rcases h with rfl | rfl | h
  ·rfl
  ·rfl
  ·exact netV_one h
theorem bysA_frz {fr : List FR} {s : St} {R : Value → Zc → Asrt → Prop} (k : Nat) {l : List Int} {A : Option Addr} {c : Nat} (hc : l.length ≤ c) (hB : Bys l) (hk : look k s.L = some (.own (bysA l A c))) (h : ∀ z', s.z ≤ z' → By z' l (.slice A l.length c) → FinV fr ⟨s.t, del k s.L, z', s.n⟩ R) (h0 : l = [] → FinV fr ⟨s.t, s.L, s.z, s.n⟩ R) : FinV fr s R := by
 by_cases hl : l = []
 ·exact h0 hl
 ·unfold bysA at hk
  rw [if_neg hl] at hk
  refine FinV.frzR k hk fun A' c' z' e1 e2 e3 e4 => ?_
  injection e1 with e1 _ e5
  subst e1
  exact h z' e3 (by subst e5; exact By.mk hc hB e4)
theorem l9first0 (c : Cfg) (link : Int) (e0 e1 : End) (n0 n1 : List Msg) (msg : Msg) (rest : List Msg) (m : WM) (z : Zc) (hR : WldR z e0 e1 n0 n1 m) (hn : n0 = msg :: rest) (h30 : n0.length ≤ 1000) :
  Spec Tryz.prog 127 [wldV c link m, .int .i64 0] z (wldA e0 e1 n0 n1 m) fun u z' A' => ∃ m' A k, u = .tuple #[wldV c link m', .agg #[.bool msg.bent, .slice A msg.bytes.length k]] ∧ A' = wldA e0 e1 (if 0 = 0 then rest else n0) (if 0 = 0 then n1 else rest) m' ∧ WldR z' e0 e1 (if 0 = 0 then rest else n0) (if 0 = 0 then n1 else rest) m' ∧ By z' msg.bytes (.slice A msg.bytes.length k) := by
 subst hn
 obtain ⟨E, EC, N, NC, m0, m1, ⟨A0, C0, ms0⟩, ⟨A1, C1, ms1⟩⟩ := m
 have hok := hR.n0.ok
 have hcap := hR.n0.cap
 dsimp only at hok hcap
 cases ms0 with
 | nil => exact hok.elim
 | cons x ms =>
 obtain ⟨a, cb⟩ := x
 obtain ⟨⟨hb1, hb2⟩, hok⟩ := hok
 have hvl := netV_len hok
 have hlr : (msg :: rest).length = rest.length + 1 := rfl
 refine eL kyR k127 ?_
 refine vsI.atR 11 rfl fun hN => ?_
 have hN := hN (by omega)
 refine vsI.atR 40 rfl fun hA => ?_
 have hA := hA (by simp)
 (refine vsI.frzR 40 rfl rfl (fun A4 c4 z4 hv4 hc4 hz4 hr4 => ?_)); (first | subst hv4 | (injection hv4 with hv_1 hv_2 hv_3; subst hv_1; subst hv_3)); refine gO ?_
 simp only [netV] at hr4
 ((first | refine ⟨⟨by omega, hN⟩, ?_⟩ | refine ⟨hN, ?_⟩); (try simp only [seval, go_sem]))
 (refine ldF.one _ (RdS.cell 11 rfl rfl) ?_; refine gO ?_)
 refine ⟨⟨by simp, hA⟩, ?_⟩
 refine ldF.agg (sz := 2) [.bool msg.bent, .slice a msg.bytes.length cb] rfl (by exact .inl (hr4.sub 0 [.bool msg.bent, .slice a msg.bytes.length cb] (fun i u hu => by rw [Nat.zero_add]; match i, hu with | 0, hu => exact hu | 1, hu => exact hu))) ?_
 simp only [seval, go_sem]
 refine gO ?_
 dsimp only at hz4
 have hd : RdAt z4 (cutA A0 C0 1 2) 0 (netV rest ms) := hr4.cut (l := 1) (sz := 2) (c := C0) (by simp [hvl]; omega)
 have hR4 : WldR z4 e0 e1 (msg :: rest) n1 ⟨E, EC, N, NC, m0, m1, ⟨A0, C0, (a, cb) :: ms⟩, ⟨A1, C1, ms1⟩⟩ := ⟨hR.e0.mono hz4, hR.e1.mono hz4, hR.n0, hR.n1⟩
 (with_reducible refine joinV.id ?_; simp only [seval, go_sem])
 ((first | refine ⟨⟨by omega, hN⟩, ?_⟩ | refine ⟨hN, ?_⟩); (try simp only [seval, go_sem]))
 refine And.intro ?_ ?_
 all_goals (try simp only [seval, go_sem])
 all_goals (refine ldF.one _ (RdS.cell 11 rfl rfl) ?_; refine gO ?_)
 all_goals refine ⟨by omega, ?_⟩; refine gO ?_
 all_goals by_cases hre : rest = []
 ·subst hre
  have hms : ms = [] := by
   cases ms with
   | nil => rfl
   | cons x y => exact hok.elim
  subst hms
  simp only [seval, go_sem]
  refine aT ?_; (refine appM_zero atyMs (by first | exact .inl ⟨_, _, _, Nat.le_refl _, rfl⟩ | exact .inr ⟨_, _, rfl⟩) rfl ?_); refine gO ?_
  ((first | refine ⟨⟨by omega, hN⟩, ?_⟩ | refine ⟨hN, ?_⟩); (try simp only [seval, go_sem]))
  refine stoV.toRow 45 4 (m := 0) (sz := 2) rfl rfl rfl (by omega) (fun b => ?_)
  simp only [seval, go_sem, rowSt, subV, subC, subE, subL]
  (refine stoV_row 11 rfl rfl rfl rfl rfl rfl rfl (by simp) ?_; simp only [seval, go_sem, putV]; refine gO ?_)
  refine FinV.tf (Tf.split 41 46 rfl rfl rfl) ?_
  dsimp only
  refine bysA_frz 46 hb1 hb2 rfl (fun z5 hz5 hby => ?_) (fun h0 => ?_)
  ·dsimp only at hz5
   simp only [seval, go_sem]
   (refine FinV.pk 999 [10, 11, 20, 21, 22, 23, 30, 31, 32, 33, 45, 41, 50, 51] ?_); dsimp only
   refine fP ?_
   exact ⟨⟨E, EC, N, NC, m0, m1, ⟨some ⟨b, 0, none⟩, 0, []⟩, ⟨A1, C1, ms1⟩⟩, a, cb, rfl, rfl, ⟨hR4.e0.mono hz5, hR4.e1.mono hz5, ⟨trivial, Nat.le_refl _⟩, hR4.n1⟩, hby⟩
  ·dsimp only
   (refine FinV.pk 999 [10, 11, 20, 21, 22, 23, 30, 31, 32, 33, 45, 41, 50, 51] ?_); dsimp only
   refine fP ?_
   exact ⟨⟨E, EC, N, NC, m0, m1, ⟨some ⟨b, 0, none⟩, 0, []⟩, ⟨A1, C1, ms1⟩⟩, a, cb, rfl, rfl, ⟨hR4.e0, hR4.e1, ⟨trivial, Nat.le_refl _⟩, hR4.n1⟩, by rw [h0]; exact Sl.nil _ _ _⟩
 ·have hpos : 0 < rest.length := List.length_pos_iff.2 hre
  try simp only [Nat.add_sub_cancel]
  refine aT ?_; (refine appM_emptyO 45 atyMs rfl (by first | exact .inl ⟨_, rfl⟩ | exact .inr ⟨_, _, rfl⟩) rfl (hd) (by first | omega | (simp <;> omega)) (fun u hu => netV_one hu) (by omega) (by omega) (fun A5 c5 hc5 => ?_)); refine gO ?_
  ((first | refine ⟨⟨by omega, hN⟩, ?_⟩ | refine ⟨hN, ?_⟩); (try simp only [seval, go_sem]))
  (refine stoV_row 11 rfl rfl rfl rfl rfl rfl rfl (by simp) ?_; simp only [seval, go_sem, putV]; refine gO ?_)
  refine FinV.tf (Tf.split 41 46 rfl rfl rfl) ?_
  dsimp only
  refine bysA_frz 46 hb1 hb2 rfl (fun z5 hz5 hby => ?_) (fun h0 => ?_)
  ·dsimp only at hz5
   simp only [seval, go_sem]
   (refine FinV.pk 999 [10, 11, 20, 21, 22, 23, 30, 31, 32, 33, 45, 41, 50, 51] ?_); dsimp only
   refine fP ?_
   exact ⟨⟨E, EC, N, NC, m0, m1, ⟨A5, c5, ms⟩, ⟨A1, C1, ms1⟩⟩, a, cb, rfl, rfl, ⟨hR4.e0.mono hz5, hR4.e1.mono hz5, ⟨hok, hc5⟩, hR4.n1⟩, hby⟩
  ·dsimp only
   (refine FinV.pk 999 [10, 11, 20, 21, 22, 23, 30, 31, 32, 33, 45, 41, 50, 51] ?_); dsimp only
   refine fP ?_
   exact ⟨⟨E, EC, N, NC, m0, m1, ⟨A5, c5, ms⟩, ⟨A1, C1, ms1⟩⟩, a, cb, rfl, rfl, ⟨hR4.e0, hR4.e1, ⟨hok, hc5⟩, hR4.n1⟩, by rw [h0]; exact Sl.nil _ _ _⟩
 ·subst hre
  have hms : ms = [] := by
   cases ms with
   | nil => rfl
   | cons x y => exact hok.elim
  subst hms
  simp only [seval, go_sem]
  refine aT ?_; (refine appM_zero atyMs (by first | exact .inl ⟨_, _, _, Nat.le_refl _, rfl⟩ | exact .inr ⟨_, _, rfl⟩) rfl ?_); refine gO ?_
  ((first | refine ⟨⟨by omega, hN⟩, ?_⟩ | refine ⟨hN, ?_⟩); (try simp only [seval, go_sem]))
  refine stoV.toRow 45 4 (m := 0) (sz := 2) rfl rfl rfl (by omega) (fun b => ?_)
  simp only [seval, go_sem, rowSt, subV, subC, subE, subL]
  (refine stoV_row 11 rfl rfl rfl rfl rfl rfl rfl (by simp) ?_; simp only [seval, go_sem, putV]; refine gO ?_)
  refine FinV.tf (Tf.split 41 46 rfl rfl rfl) ?_
  dsimp only
  refine bysA_frz 46 hb1 hb2 rfl (fun z5 hz5 hby => ?_) (fun h0 => ?_)
  ·dsimp only at hz5
   simp only [seval, go_sem]
   (refine FinV.pk 999 [10, 11, 20, 21, 22, 23, 30, 31, 32, 33, 45, 41, 50, 51] ?_); dsimp only
   refine fP ?_
   exact ⟨⟨E, EC, N, NC, m0, m1, ⟨some ⟨b, 0, none⟩, 0, []⟩, ⟨A1, C1, ms1⟩⟩, a, cb, rfl, rfl, ⟨hR4.e0.mono hz5, hR4.e1.mono hz5, ⟨trivial, Nat.le_refl _⟩, hR4.n1⟩, hby⟩
  ·dsimp only
   (refine FinV.pk 999 [10, 11, 20, 21, 22, 23, 30, 31, 32, 33, 45, 41, 50, 51] ?_); dsimp only
   refine fP ?_
   exact ⟨⟨E, EC, N, NC, m0, m1, ⟨some ⟨b, 0, none⟩, 0, []⟩, ⟨A1, C1, ms1⟩⟩, a, cb, rfl, rfl, ⟨hR4.e0, hR4.e1, ⟨trivial, Nat.le_refl _⟩, hR4.n1⟩, by rw [h0]; exact Sl.nil _ _ _⟩
 ·have hpos : 0 < rest.length := List.length_pos_iff.2 hre
  try simp only [Nat.add_sub_cancel]
  refine aT ?_; (refine appM_emptyO 45 atyMs rfl (by first | exact .inl ⟨_, rfl⟩ | exact .inr ⟨_, _, rfl⟩) rfl (hd) (by first | omega | (simp <;> omega)) (fun u hu => netV_one hu) (by omega) (by omega) (fun A5 c5 hc5 => ?_)); refine gO ?_
  ((first | refine ⟨⟨by omega, hN⟩, ?_⟩ | refine ⟨hN, ?_⟩); (try simp only [seval, go_sem]))
  (refine stoV_row 11 rfl rfl rfl rfl rfl rfl rfl (by simp) ?_; simp only [seval, go_sem, putV]; refine gO ?_)
  refine FinV.tf (Tf.split 41 46 rfl rfl rfl) ?_
  dsimp only
  refine bysA_frz 46 hb1 hb2 rfl (fun z5 hz5 hby => ?_) (fun h0 => ?_)
  ·dsimp only at hz5
   simp only [seval, go_sem]
   (refine FinV.pk 999 [10, 11, 20, 21, 22, 23, 30, 31, 32, 33, 45, 41, 50, 51] ?_); dsimp only
   refine fP ?_
   exact ⟨⟨E, EC, N, NC, m0, m1, ⟨A5, c5, ms⟩, ⟨A1, C1, ms1⟩⟩, a, cb, rfl, rfl, ⟨hR4.e0.mono hz5, hR4.e1.mono hz5, ⟨hok, hc5⟩, hR4.n1⟩, hby⟩
  ·dsimp only
   (refine FinV.pk 999 [10, 11, 20, 21, 22, 23, 30, 31, 32, 33, 45, 41, 50, 51] ?_); dsimp only
   refine fP ?_
   exact ⟨⟨E, EC, N, NC, m0, m1, ⟨A5, c5, ms⟩, ⟨A1, C1, ms1⟩⟩, a, cb, rfl, rfl, ⟨hR4.e0, hR4.e1, ⟨hok, hc5⟩, hR4.n1⟩, by rw [h0]; exact Sl.nil _ _ _⟩
theorem l9first1 (c : Cfg) (link : Int) (e0 e1 : End) (n0 n1 : List Msg) (msg : Msg) (rest : List Msg) (m : WM) (z : Zc) (hR : WldR z e0 e1 n0 n1 m) (hn : n1 = msg :: rest) (h30 : n1.length ≤ 1000) :
  Spec Tryz.prog 127 [wldV c link m, .int .i64 1] z (wldA e0 e1 n0 n1 m) fun u z' A' => ∃ m' A k, u = .tuple #[wldV c link m', .agg #[.bool msg.bent, .slice A msg.bytes.length k]] ∧ A' = wldA e0 e1 (if 1 = 0 then rest else n0) (if 1 = 0 then n1 else rest) m' ∧ WldR z' e0 e1 (if 1 = 0 then rest else n0) (if 1 = 0 then n1 else rest) m' ∧ By z' msg.bytes (.slice A msg.bytes.length k) := by
 subst hn
 obtain ⟨E, EC, N, NC, m0, m1, ⟨A0, C0, ms0⟩, ⟨A1, C1, ms1⟩⟩ := m
 have hok := hR.n1.ok
 have hcap := hR.n1.cap
 dsimp only at hok hcap
 cases ms1 with
 | nil => exact hok.elim
 | cons x ms =>
 obtain ⟨a, cb⟩ := x
 obtain ⟨⟨hb1, hb2⟩, hok⟩ := hok
 have hvl := netV_len hok
 have hlr : (msg :: rest).length = rest.length + 1 := rfl
 refine eL kyR k127 ?_
 refine vsI.atR 11 rfl fun hN => ?_
 have hN := hN (by omega)
 refine vsI.atR 50 rfl fun hA => ?_
 have hA := hA (by simp)
 (refine vsI.frzR 50 rfl rfl (fun A4 c4 z4 hv4 hc4 hz4 hr4 => ?_)); (first | subst hv4 | (injection hv4 with hv_1 hv_2 hv_3; subst hv_1; subst hv_3)); refine gO ?_
 simp only [netV] at hr4
 ((first | refine ⟨⟨by omega, hN⟩, ?_⟩ | refine ⟨hN, ?_⟩); (try simp only [seval, go_sem]))
 (refine ldF.one _ (RdS.cell 11 rfl rfl) ?_; refine gO ?_)
 refine ⟨⟨by simp, hA⟩, ?_⟩
 refine ldF.agg (sz := 2) [.bool msg.bent, .slice a msg.bytes.length cb] rfl (by exact .inl (hr4.sub 0 [.bool msg.bent, .slice a msg.bytes.length cb] (fun i u hu => by rw [Nat.zero_add]; match i, hu with | 0, hu => exact hu | 1, hu => exact hu))) ?_
 simp only [seval, go_sem]
 refine gO ?_
 dsimp only at hz4
 have hd : RdAt z4 (cutA A1 C1 1 2) 0 (netV rest ms) := hr4.cut (l := 1) (sz := 2) (c := C1) (by simp [hvl]; omega)
 have hR4 : WldR z4 e0 e1 n0 (msg :: rest) ⟨E, EC, N, NC, m0, m1, ⟨A0, C0, ms0⟩, ⟨A1, C1, (a, cb) :: ms⟩⟩ := ⟨hR.e0.mono hz4, hR.e1.mono hz4, hR.n0, hR.n1⟩
 (with_reducible refine joinV.id ?_; simp only [seval, go_sem])
 ((first | refine ⟨⟨by omega, hN⟩, ?_⟩ | refine ⟨hN, ?_⟩); (try simp only [seval, go_sem]))
 refine And.intro ?_ ?_
 all_goals (try simp only [seval, go_sem])
 all_goals (refine ldF.one _ (RdS.cell 11 rfl rfl) ?_; refine gO ?_)
 all_goals refine ⟨by omega, ?_⟩; refine gO ?_
 all_goals by_cases hre : rest = []
 ·subst hre
  have hms : ms = [] := by
   cases ms with
   | nil => rfl
   | cons x y => exact hok.elim
  subst hms
  simp only [seval, go_sem]
  refine aT ?_; (refine appM_zero atyMs (by first | exact .inl ⟨_, _, _, Nat.le_refl _, rfl⟩ | exact .inr ⟨_, _, rfl⟩) rfl ?_); refine gO ?_
  ((first | refine ⟨⟨by omega, hN⟩, ?_⟩ | refine ⟨hN, ?_⟩); (try simp only [seval, go_sem]))
  refine stoV.toRow 45 4 (m := 0) (sz := 2) rfl rfl rfl (by omega) (fun b => ?_)
  simp only [seval, go_sem, rowSt, subV, subC, subE, subL]
  (refine stoV_row 11 rfl rfl rfl rfl rfl rfl rfl (by simp) ?_; simp only [seval, go_sem, putV]; refine gO ?_)
  refine FinV.tf (Tf.split 51 46 rfl rfl rfl) ?_
  dsimp only
  refine bysA_frz 46 hb1 hb2 rfl (fun z5 hz5 hby => ?_) (fun h0 => ?_)
  ·dsimp only at hz5
   simp only [seval, go_sem]
   (refine FinV.pk 999 [10, 11, 20, 21, 22, 23, 30, 31, 32, 33, 40, 41, 45, 51] ?_); dsimp only
   refine fP ?_
   exact ⟨⟨E, EC, N, NC, m0, m1, ⟨A0, C0, ms0⟩, ⟨some ⟨b, 0, none⟩, 0, []⟩⟩, a, cb, rfl, rfl, ⟨hR4.e0.mono hz5, hR4.e1.mono hz5, hR4.n0, ⟨trivial, Nat.le_refl _⟩⟩, hby⟩
  ·dsimp only
   (refine FinV.pk 999 [10, 11, 20, 21, 22, 23, 30, 31, 32, 33, 40, 41, 45, 51] ?_); dsimp only
   refine fP ?_
   exact ⟨⟨E, EC, N, NC, m0, m1, ⟨A0, C0, ms0⟩, ⟨some ⟨b, 0, none⟩, 0, []⟩⟩, a, cb, rfl, rfl, ⟨hR4.e0, hR4.e1, hR4.n0, ⟨trivial, Nat.le_refl _⟩⟩, by rw [h0]; exact Sl.nil _ _ _⟩
 ·have hpos : 0 < rest.length := List.length_pos_iff.2 hre
  try simp only [Nat.add_sub_cancel]
  refine aT ?_; (refine appM_emptyO 45 atyMs rfl (by first | exact .inl ⟨_, rfl⟩ | exact .inr ⟨_, _, rfl⟩) rfl (hd) (by first | omega | (simp <;> omega)) (fun u hu => netV_one hu) (by omega) (by omega) (fun A5 c5 hc5 => ?_)); refine gO ?_
  ((first | refine ⟨⟨by omega, hN⟩, ?_⟩ | refine ⟨hN, ?_⟩); (try simp only [seval, go_sem]))
  (refine stoV_row 11 rfl rfl rfl rfl rfl rfl rfl (by simp) ?_; simp only [seval, go_sem, putV]; refine gO ?_)
  refine FinV.tf (Tf.split 51 46 rfl rfl rfl) ?_
  dsimp only
  refine bysA_frz 46 hb1 hb2 rfl (fun z5 hz5 hby => ?_) (fun h0 => ?_)
  ·dsimp only at hz5
   simp only [seval, go_sem]
   (refine FinV.pk 999 [10, 11, 20, 21, 22, 23, 30, 31, 32, 33, 40, 41, 45, 51] ?_); dsimp only
   refine fP ?_
   exact ⟨⟨E, EC, N, NC, m0, m1, ⟨A0, C0, ms0⟩, ⟨A5, c5, ms⟩⟩, a, cb, rfl, rfl, ⟨hR4.e0.mono hz5, hR4.e1.mono hz5, hR4.n0, ⟨hok, hc5⟩⟩, hby⟩
  ·dsimp only
   (refine FinV.pk 999 [10, 11, 20, 21, 22, 23, 30, 31, 32, 33, 40, 41, 45, 51] ?_); dsimp only
   refine fP ?_
   exact ⟨⟨E, EC, N, NC, m0, m1, ⟨A0, C0, ms0⟩, ⟨A5, c5, ms⟩⟩, a, cb, rfl, rfl, ⟨hR4.e0, hR4.e1, hR4.n0, ⟨hok, hc5⟩⟩, by rw [h0]; exact Sl.nil _ _ _⟩
 ·subst hre
  have hms : ms = [] := by
   cases ms with
   | nil => rfl
   | cons x y => exact hok.elim
  subst hms
  simp only [seval, go_sem]
  refine aT ?_; (refine appM_zero atyMs (by first | exact .inl ⟨_, _, _, Nat.le_refl _, rfl⟩ | exact .inr ⟨_, _, rfl⟩) rfl ?_); refine gO ?_
  ((first | refine ⟨⟨by omega, hN⟩, ?_⟩ | refine ⟨hN, ?_⟩); (try simp only [seval, go_sem]))
  refine stoV.toRow 45 4 (m := 0) (sz := 2) rfl rfl rfl (by omega) (fun b => ?_)
  simp only [seval, go_sem, rowSt, subV, subC, subE, subL]
  (refine stoV_row 11 rfl rfl rfl rfl rfl rfl rfl (by simp) ?_; simp only [seval, go_sem, putV]; refine gO ?_)
  refine FinV.tf (Tf.split 51 46 rfl rfl rfl) ?_
  dsimp only
  refine bysA_frz 46 hb1 hb2 rfl (fun z5 hz5 hby => ?_) (fun h0 => ?_)
  ·dsimp only at hz5
   simp only [seval, go_sem]
   (refine FinV.pk 999 [10, 11, 20, 21, 22, 23, 30, 31, 32, 33, 40, 41, 45, 51] ?_); dsimp only
   refine fP ?_
   exact ⟨⟨E, EC, N, NC, m0, m1, ⟨A0, C0, ms0⟩, ⟨some ⟨b, 0, none⟩, 0, []⟩⟩, a, cb, rfl, rfl, ⟨hR4.e0.mono hz5, hR4.e1.mono hz5, hR4.n0, ⟨trivial, Nat.le_refl _⟩⟩, hby⟩
  ·dsimp only
   (refine FinV.pk 999 [10, 11, 20, 21, 22, 23, 30, 31, 32, 33, 40, 41, 45, 51] ?_); dsimp only
   refine fP ?_
   exact ⟨⟨E, EC, N, NC, m0, m1, ⟨A0, C0, ms0⟩, ⟨some ⟨b, 0, none⟩, 0, []⟩⟩, a, cb, rfl, rfl, ⟨hR4.e0, hR4.e1, hR4.n0, ⟨trivial, Nat.le_refl _⟩⟩, by rw [h0]; exact Sl.nil _ _ _⟩
 ·have hpos : 0 < rest.length := List.length_pos_iff.2 hre
  try simp only [Nat.add_sub_cancel]
  refine aT ?_; (refine appM_emptyO 45 atyMs rfl (by first | exact .inl ⟨_, rfl⟩ | exact .inr ⟨_, _, rfl⟩) rfl (hd) (by first | omega | (simp <;> omega)) (fun u hu => netV_one hu) (by omega) (by omega) (fun A5 c5 hc5 => ?_)); refine gO ?_
  ((first | refine ⟨⟨by omega, hN⟩, ?_⟩ | refine ⟨hN, ?_⟩); (try simp only [seval, go_sem]))
  (refine stoV_row 11 rfl rfl rfl rfl rfl rfl rfl (by simp) ?_; simp only [seval, go_sem, putV]; refine gO ?_)
  refine FinV.tf (Tf.split 51 46 rfl rfl rfl) ?_
  dsimp only
  refine bysA_frz 46 hb1 hb2 rfl (fun z5 hz5 hby => ?_) (fun h0 => ?_)
  ·dsimp only at hz5
   simp only [seval, go_sem]
   (refine FinV.pk 999 [10, 11, 20, 21, 22, 23, 30, 31, 32, 33, 40, 41, 45, 51] ?_); dsimp only
   refine fP ?_
   exact ⟨⟨E, EC, N, NC, m0, m1, ⟨A0, C0, ms0⟩, ⟨A5, c5, ms⟩⟩, a, cb, rfl, rfl, ⟨hR4.e0.mono hz5, hR4.e1.mono hz5, hR4.n0, ⟨hok, hc5⟩⟩, hby⟩
  ·dsimp only
   (refine FinV.pk 999 [10, 11, 20, 21, 22, 23, 30, 31, 32, 33, 40, 41, 45, 51] ?_); dsimp only
   refine fP ?_
   exact ⟨⟨E, EC, N, NC, m0, m1, ⟨A0, C0, ms0⟩, ⟨A5, c5, ms⟩⟩, a, cb, rfl, rfl, ⟨hR4.e0, hR4.e1, hR4.n0, ⟨hok, hc5⟩⟩, by rw [h0]; exact Sl.nil _ _ _⟩
structure TelS where
 i : Nat
 g : List (List Int)
 A : Option Addr
 C : Nat
 V : List Value
 z : Zc
theorem tell_take {got l : List (List Int)} {i : Nat} {x : List Int} (h : l[i]? = some x) : tell got (l.take (i + 1)) = if (tell got (l.take i)).length < 60 then tell got (l.take i) ++ [x] else tell got (l.take i) := by
 unfold tell
 rw [List.take_add_one, h, List.foldl_append]
 rfl
theorem l9tell0 (c : Cfg) (link : Int) (e0 e1 : End) (n0 n1 : List Msg) (m : WM) (l : List (List Int)) (v : Value) (z : Zc) (hR : WldR z e0 e1 n0 n1 m) (hv : Sl sduRep z l v) (hl : l.length ≤ 1000) (h60 : e0.got.length ≤ 60) :
  Spec Tryz.prog 158 [wldV c link m, .int .i64 0, v] z (wldA e0 e1 n0 n1 m) (WldH c ⟨c, [e0, e1].set 0 { e0 with got := tell e0.got l }, [n0, n1], link⟩) := by
 obtain ⟨A, kk, cs, rfl, hk, he, hr⟩ := hv
 refine eL kyR k158 ?_
 refine vsI.atR 10 rfl fun hE => ?_
 have hE := hE (by omega)
 refine gO ?_
 refine loop_upd (ι := TelS) (n := 2) (fun s => z ≤ s.z ∧ s.i ≤ l.length ∧ s.g = tell e0.got (l.take s.i) ∧ Els sduRep s.z s.g s.V ∧ s.g.length ≤ s.C ∧ s.g.length ≤ 60) (fun s => [(7, .c (.v (.int .i64 s.i)))]) (fun s => [(10, .own (rowA tyE 28 (.slice m.E 2 m.EC) 2 (endsC { e0 with got := s.g } e1 { m.m0 with gA := s.A, gC := s.C } m.m1))), (11, .own (rowA tyN 1 (.slice m.N 2 m.NC) 2 [.slice m.n0.A n0.length m.n0.C, .slice m.n1.A n1.length m.n1.C])),
  (20, .own (rowA tyP 3 (.slice m.m0.fA e0.tx.flight.length m.m0.fC) e0.tx.flight.length m.m0.fV)), (21, .own (rowA tyP 3 (.slice m.m0.qA e0.tx.queue.length m.m0.qC) e0.tx.queue.length m.m0.qV)), (22, .own (rowA tyS 1 (.slice m.m0.pA e0.put.length m.m0.pC) e0.put.length m.m0.pV)),
  (30, .own (rowA tyP 3 (.slice m.m1.fA e1.tx.flight.length m.m1.fC) e1.tx.flight.length m.m1.fV)), (31, .own (rowA tyP 3 (.slice m.m1.qA e1.tx.queue.length m.m1.qC) e1.tx.queue.length m.m1.qV)), (32, .own (rowA tyS 1 (.slice m.m1.pA e1.put.length m.m1.pC) e1.put.length m.m1.pV)), (23, .own (rowA tyS 1 (.slice s.A s.g.length s.C) s.g.length s.V)), (33, .own (rowA tyS 1 (.slice m.m1.gA e1.got.length m.m1.gC) e1.got.length m.m1.gV)),
  (40, .own (rowA tyM 2 (.slice m.n0.A n0.length m.n0.C) n0.length (netV n0 m.n0.ms))), (41, .own (starL (netB n0 m.n0.ms))), (50, .own (rowA tyM 2 (.slice m.n1.A n1.length m.n1.C) n1.length (netV n1 m.n1.ms))), (51, .own (starL (netB n1 m.n1.ms))),
  (0, .cells 31 [.v (.int .i64 c.mode), .v (.int .i64 c.win), .v (.int .i64 c.mps), .v (.int .i64 c.mtu), .v (.int .i64 c.tri), .v (.slice m.E 2 m.EC), .v (.slice m.N 2 m.NC), .v (.int .i64 link)]), (1, .cells 31 [.v (.int .i64 0), .v (.int .i64 0), .v (.int .i64 0), .v (.int .i64 0), .v (.int .i64 0), .v (.slice none 0 0), .v (.slice none 0 0), .v (.int .i64 0)])]) (fun s => s.z) (fun s => l.length - s.i) ⟨0, e0.got, m.m0.gA, m.m0.gC, m.m0.gV, z⟩ ⟨Zc.rfl' _, by simp, by simp [tell], hR.e0.go, hR.e0.gc, h60⟩ (by (simp only [wrI, wrR, anyL, st, List.append_nil, List.nil_append, List.cons_append]); exact rfl) ?_ ?_
 ·exact lX
 ·rintro ⟨i, g, gA, gC, gV, z1⟩ ⟨hz1, hi, hgl, hge, hgc, hg60⟩
  dsimp only at *
  refine gO ?_
  (with_reducible refine condI.split (fun hg => ?_) (fun hg => ?_) <;> (try simp only [hg]) <;> (try simp only [seval, go_sem]))
  ·have hi' : i < l.length := by simp at hg; omega
   obtain ⟨x, hx⟩ : ∃ x, l[i]? = some x := ⟨_, List.getElem?_eq_getElem hi'⟩
   obtain ⟨c1, ⟨v, rfl, hb⟩, hr1⟩ := (he.mono hz1).at (hr.mono hz1) hx
   obtain ⟨A1, c1, rfl, hc1, hB1, hrb⟩ := By.form hb
   have hat : IsAt A := he.isAt hr (by decide) hi'
   refine gO ?_
   ((first | refine ⟨⟨by omega, hE⟩, ?_⟩ | refine ⟨hE, ?_⟩); (try simp only [seval, go_sem]))
   (refine ldF.one _ (RdS.cell 10 rfl rfl) ?_; refine gO ?_)
   (with_reducible refine condI.split (fun hg => ?_) (fun hg => ?_) <;> (try simp only [hg]) <;> (try simp only [seval, go_sem]))
   ·refine gO ?_
    (with_reducible refine joinV.id ?_; simp only [seval, go_sem])
    ((first | refine ⟨⟨by omega, hE⟩, ?_⟩ | refine ⟨hE, ?_⟩); (try simp only [seval, go_sem]))
    (refine ⟨⟨by omega, by omega, hat⟩, ?_⟩; (try simp only [seval, go_sem]))
    (refine ldF.one _ (by first | exact .inl hr1 | exact hr1) ?_; (try simp only [seval, go_sem]))
    refine And.intro ?_ ?_
    all_goals (try simp only [seval, go_sem])
    all_goals (refine ldF.one _ (RdS.cell 10 rfl rfl) ?_; refine gO ?_)
    all_goals refine aT ?_; (refine appM_newF 23 atyS rfl rfl rfl rfl rfl rfl rfl (by simp [Value.oneCell']) (by omega) (fun A6 c6 hc6 hat6 => ?_)); refine gO ?_
    all_goals ((first | refine ⟨⟨by omega, hE⟩, ?_⟩ | refine ⟨hE, ?_⟩); (try simp only [seval, go_sem]))
    all_goals (refine stoV_row 10 rfl rfl rfl rfl rfl rfl rfl (by rw [endsC_len]; simp) ?_; refine gO ?_)
    all_goals rw [ends_got0 _ _ _ _ (g ++ [x]) _ _ _ (by simp), show g.length + 1 = (g ++ [x]).length by simp]
    all_goals refine ⟨⟨i + 1, g ++ [x], A6, c6, gV ++ [.slice A1 x.length c1], z1⟩, ⟨hz1, by dsimp only; omega, ?_, hge.append (Els.single (d := sduRep) ⟨_, rfl, By.mk hc1 hB1 hrb⟩), by simp; exact hc6, by have := of_decide_eq_true hg; simp; omega⟩, by dsimp only; omega, ?_⟩
    all_goals first
     | (dsimp only; rw [tell_take hx, ← hgl, if_pos (by have := of_decide_eq_true hg; omega)])
     | exact lX
   ·refine gO ?_
    refine ⟨⟨i + 1, g, gA, gC, gV, z1⟩, ⟨hz1, by dsimp only; omega, by dsimp only; rw [tell_take hx, ← hgl, if_neg (by have := of_decide_eq_false hg; omega)], hge, hgc, hg60⟩, by dsimp only; omega, ?_⟩
    exact lX
  ·refine gO ?_
   refine wS ?_
   have hil : i = l.length := by simp at hg; omega
   subst hil
   rw [List.take_length] at hgl
   subst hgl
   exact ⟨_, e1, n0, n1, { m with m0 := { m.m0 with gA := gA, gC := gC, gV := gV } }, rfl, rfl, rfl, rfl, rfl, ⟨{ (hR.e0.mono hz1) with go := hge, gc := hgc }, hR.e1.mono hz1, hR.n0, hR.n1⟩⟩
theorem l9tell1 (c : Cfg) (link : Int) (e0 e1 : End) (n0 n1 : List Msg) (m : WM) (l : List (List Int)) (v : Value) (z : Zc) (hR : WldR z e0 e1 n0 n1 m) (hv : Sl sduRep z l v) (hl : l.length ≤ 1000) (h60 : e1.got.length ≤ 60) :
  Spec Tryz.prog 158 [wldV c link m, .int .i64 1, v] z (wldA e0 e1 n0 n1 m) (WldH c ⟨c, [e0, e1].set 1 { e1 with got := tell e1.got l }, [n0, n1], link⟩) := by
 obtain ⟨A, kk, cs, rfl, hk, he, hr⟩ := hv
 refine eL kyR k158 ?_
 refine vsI.atR 10 rfl fun hE => ?_
 have hE := hE (by omega)
 refine gO ?_
 refine loop_upd (ι := TelS) (n := 2) (fun s => z ≤ s.z ∧ s.i ≤ l.length ∧ s.g = tell e1.got (l.take s.i) ∧ Els sduRep s.z s.g s.V ∧ s.g.length ≤ s.C ∧ s.g.length ≤ 60) (fun s => [(7, .c (.v (.int .i64 s.i)))]) (fun s => [(10, .own (rowA tyE 28 (.slice m.E 2 m.EC) 2 (endsC e0 { e1 with got := s.g } m.m0 { m.m1 with gA := s.A, gC := s.C }))), (11, .own (rowA tyN 1 (.slice m.N 2 m.NC) 2 [.slice m.n0.A n0.length m.n0.C, .slice m.n1.A n1.length m.n1.C])),
  (20, .own (rowA tyP 3 (.slice m.m0.fA e0.tx.flight.length m.m0.fC) e0.tx.flight.length m.m0.fV)), (21, .own (rowA tyP 3 (.slice m.m0.qA e0.tx.queue.length m.m0.qC) e0.tx.queue.length m.m0.qV)), (22, .own (rowA tyS 1 (.slice m.m0.pA e0.put.length m.m0.pC) e0.put.length m.m0.pV)),
  (30, .own (rowA tyP 3 (.slice m.m1.fA e1.tx.flight.length m.m1.fC) e1.tx.flight.length m.m1.fV)), (31, .own (rowA tyP 3 (.slice m.m1.qA e1.tx.queue.length m.m1.qC) e1.tx.queue.length m.m1.qV)), (32, .own (rowA tyS 1 (.slice m.m1.pA e1.put.length m.m1.pC) e1.put.length m.m1.pV)), (33, .own (rowA tyS 1 (.slice s.A s.g.length s.C) s.g.length s.V)), (23, .own (rowA tyS 1 (.slice m.m0.gA e0.got.length m.m0.gC) e0.got.length m.m0.gV)),
  (40, .own (rowA tyM 2 (.slice m.n0.A n0.length m.n0.C) n0.length (netV n0 m.n0.ms))), (41, .own (starL (netB n0 m.n0.ms))), (50, .own (rowA tyM 2 (.slice m.n1.A n1.length m.n1.C) n1.length (netV n1 m.n1.ms))), (51, .own (starL (netB n1 m.n1.ms))),
  (0, .cells 31 [.v (.int .i64 c.mode), .v (.int .i64 c.win), .v (.int .i64 c.mps), .v (.int .i64 c.mtu), .v (.int .i64 c.tri), .v (.slice m.E 2 m.EC), .v (.slice m.N 2 m.NC), .v (.int .i64 link)]), (1, .cells 31 [.v (.int .i64 0), .v (.int .i64 0), .v (.int .i64 0), .v (.int .i64 0), .v (.int .i64 0), .v (.slice none 0 0), .v (.slice none 0 0), .v (.int .i64 0)])]) (fun s => s.z) (fun s => l.length - s.i) ⟨0, e1.got, m.m1.gA, m.m1.gC, m.m1.gV, z⟩ ⟨Zc.rfl' _, by simp, by simp [tell], hR.e1.go, hR.e1.gc, h60⟩ (by (simp only [wrI, wrR, anyL, st, List.append_nil, List.nil_append, List.cons_append]); exact rfl) ?_ ?_
 ·exact lX
 ·rintro ⟨i, g, gA, gC, gV, z1⟩ ⟨hz1, hi, hgl, hge, hgc, hg60⟩
  dsimp only at *
  refine gO ?_
  (with_reducible refine condI.split (fun hg => ?_) (fun hg => ?_) <;> (try simp only [hg]) <;> (try simp only [seval, go_sem]))
  ·have hi' : i < l.length := by simp at hg; omega
   obtain ⟨x, hx⟩ : ∃ x, l[i]? = some x := ⟨_, List.getElem?_eq_getElem hi'⟩
   obtain ⟨c1, ⟨v, rfl, hb⟩, hr1⟩ := (he.mono hz1).at (hr.mono hz1) hx
   obtain ⟨A1, c1, rfl, hc1, hB1, hrb⟩ := By.form hb
   have hat : IsAt A := he.isAt hr (by decide) hi'
   refine gO ?_
   ((first | refine ⟨⟨by omega, hE⟩, ?_⟩ | refine ⟨hE, ?_⟩); (try simp only [seval, go_sem]))
   (refine ldF.one _ (RdS.cell 10 rfl rfl) ?_; refine gO ?_)
   (with_reducible refine condI.split (fun hg => ?_) (fun hg => ?_) <;> (try simp only [hg]) <;> (try simp only [seval, go_sem]))
   ·refine gO ?_
    (with_reducible refine joinV.id ?_; simp only [seval, go_sem])
    ((first | refine ⟨⟨by omega, hE⟩, ?_⟩ | refine ⟨hE, ?_⟩); (try simp only [seval, go_sem]))
    (refine ⟨⟨by omega, by omega, hat⟩, ?_⟩; (try simp only [seval, go_sem]))
    (refine ldF.one _ (by first | exact .inl hr1 | exact hr1) ?_; (try simp only [seval, go_sem]))
    refine And.intro ?_ ?_
    all_goals (try simp only [seval, go_sem])
    all_goals (refine ldF.one _ (RdS.cell 10 rfl rfl) ?_; refine gO ?_)
    all_goals refine aT ?_; (refine appM_newF 33 atyS rfl rfl rfl rfl rfl rfl rfl (by simp [Value.oneCell']) (by omega) (fun A6 c6 hc6 hat6 => ?_)); refine gO ?_
    all_goals ((first | refine ⟨⟨by omega, hE⟩, ?_⟩ | refine ⟨hE, ?_⟩); (try simp only [seval, go_sem]))
    all_goals (refine stoV_row 10 rfl rfl rfl rfl rfl rfl rfl (by rw [endsC_len]; simp) ?_; refine gO ?_)
    all_goals rw [ends_got1 _ _ _ _ (g ++ [x]) _ _ _ (by simp), show g.length + 1 = (g ++ [x]).length by simp]
    all_goals refine ⟨⟨i + 1, g ++ [x], A6, c6, gV ++ [.slice A1 x.length c1], z1⟩, ⟨hz1, by dsimp only; omega, ?_, hge.append (Els.single (d := sduRep) ⟨_, rfl, By.mk hc1 hB1 hrb⟩), by simp; exact hc6, by have := of_decide_eq_true hg; simp; omega⟩, by dsimp only; omega, ?_⟩
    all_goals first
     | (dsimp only; rw [tell_take hx, ← hgl, if_pos (by have := of_decide_eq_true hg; omega)])
     | exact lX
   ·refine gO ?_
    refine ⟨⟨i + 1, g, gA, gC, gV, z1⟩, ⟨hz1, by dsimp only; omega, by dsimp only; rw [tell_take hx, ← hgl, if_neg (by have := of_decide_eq_false hg; omega)], hge, hgc, hg60⟩, by dsimp only; omega, ?_⟩
    exact lX
  ·refine gO ?_
   refine wS ?_
   have hil : i = l.length := by simp at hg; omega
   subst hil
   rw [List.take_length] at hgl
   subst hgl
   exact ⟨e0, _, n0, n1, { m with m1 := { m.m1 with gA := gA, gC := gC, gV := gV } }, rfl, rfl, rfl, rfl, rfl, ⟨hR.e0.mono hz1, { (hR.e1.mono hz1) with go := hge, gc := hgc }, hR.n0, hR.n1⟩⟩
theorem crdTakeG_ok {c : Cfg} {t : CTx} {n : Int} (h : CTxI c t) (hn : 1 ≤ n ∧ n ≤ 255) : crdTakeG c t n = crdTake t n := by unfold crdTakeG; rw [if_pos ⟨ctxOk_iff.2 h, hn⟩]
theorem frm4 {f : Frm} (h : frmOk f = true) (hk : f.kind = 4) : 1 ≤ f.len ∧ f.len ≤ 255 := by
 unfold frmOk at h
 rw [if_neg (by omega), if_neg (by omega), if_neg (by omega), if_pos hk] at h
 simp only [Bool.and_eq_true, inB_iff] at h
 exact h.1.2
theorem frmKind {f : Frm} (h : frmOk f = true) : f.kind = 1 ∨ f.kind = 2 ∨ f.kind = 3 ∨ f.kind = 4 := by
 unfold frmOk at h
 split at h
 ·omega
 ·split at h
  ·omega
  ·split at h
   ·omega
   ·split at h
    ·omega
    ·cases h
def hearC (c : Cfg) (x : End) (f : Frm) : End := if f.kind = 4 then { x with ctx := crdTake x.ctx f.len } else if f.kind = 3 then { x with crx := (crdHear c x.crx f).1, got := tell x.got (crdHear c x.crx f).2 } else x
theorem l9frame_c0 (c : Cfg) (link : Int) (e0 e1 : End) (n0 n1 : List Msg) (m : WM) (f : Frm) (x : Value) (z : Zc) (hR : WldR z e0 e1 n0 n1 m) (hI : EndI c e0) (hm : c.mode = 2) (hf : frmOk f = true) (hx : By z f.data x) :
  Spec Tryz.prog 128 [wldV c link m, .int .i64 0, vFrm f x] z (wldA e0 e1 n0 n1 m) (WldH c ⟨c, [e0, e1].set 0 (hearC c e0 f), [n0, n1], link⟩) := by
 obtain ⟨Ax, kx, rfl, hkx, hBx, hrx⟩ := hx.form
 have hfb := frmOk_bound hf
 have hp8 := hI.ctx.small
 have hq24 := hI.ctx.queue
 have hj23 := hI.crx.2.le
 have hjl : -1000000000 ≤ e0.crx.join.len := by have := hI.crx.2; rcases this with h | h <;> omega
 obtain ⟨kind, seq, ack, poll, fin, say, seg, len, data⟩ := f
 dsimp only at *
 refine eL kyR k128 ?_
 refine vsI.atR 10 rfl fun hE => ?_
 have hE := hE (by omega)
 refine gO ?_
 (with_reducible refine condI.split (fun hg => ?_) (fun hg => ?_) <;> (try simp only [hg]) <;> (try simp only [seval, go_sem]))
 ·exfalso
  simp [hm] at hg
 ·refine gO ?_
  ((first | refine ⟨⟨by omega, hE⟩, ?_⟩ | refine ⟨hE, ?_⟩); (try simp only [seval, go_sem]))
  (refine ldF.agg (sz := 28) _ rfl (by exact .inr ⟨10, _, _, _, _, _, rfl, fun i u hu => ends_get0 hu⟩) ?_; simp only [seval, go_sem, endC]; refine gO ?_)
  (with_reducible refine condI.split (fun hg => ?_) (fun hg => ?_) <;> (try simp only [hg]) <;> (try simp only [seval, go_sem]))
  ·have h4 : kind = 4 := by simpa using hg
   refine gO ?_
   have hc := crdtake_s c e0.ctx len _ z hR.e0.cq (by omega) (fun p hp => by have := hp8 p hp; omega)
   simp only [crdTakeG_ok hI.ctx (frm4 hf h4)] at hc
   refine tT ?_; refine callP (hc) rfl rfl ?_; rintro u z1 hz1 ⟨_, rfl, A3, k3, cs3, rfl, hk3, he3, hr3⟩; refine gO ?_
   have hR1 : WldR z1 e0 e1 n0 n1 m := ⟨hR.e0.mono hz1, hR.e1.mono hz1, hR.n0, hR.n1⟩
   ((first | refine ⟨⟨by omega, hE⟩, ?_⟩ | refine ⟨hE, ?_⟩); (try simp only [seval, go_sem]))
   (refine stoV_row 10 rfl rfl rfl rfl rfl rfl rfl (by rw [endsC_len]; simp) ?_; simp only [seval, go_sem, ends_ctx0]; refine gO ?_)
   (with_reducible refine condI.split (fun hg => ?_) (fun hg => ?_) <;> (try simp only [hg]) <;> (try simp only [seval, go_sem]))
   ·exfalso
    simp [h4] at hg
   ·refine gO ?_
    refine wS ?_
    rw [show hearC c e0 ⟨kind, seq, ack, poll, fin, say, seg, len, data⟩ = { e0 with ctx := crdTake e0.ctx len } by unfold hearC; rw [if_pos h4]]
    exact ⟨_, e1, n0, n1, { m with m0 := { m.m0 with cA := A3, cC := k3 } }, rfl, rfl, rfl, rfl, rfl, ⟨{ hR1.e0 with cq := ⟨_, _, _, rfl, hk3, he3, hr3⟩ }, hR1.e1, hR.n0, hR.n1⟩⟩
  ·have h4 : kind ≠ 4 := by simpa using hg
   refine gO ?_
   (with_reducible refine condI.split (fun hg => ?_) (fun hg => ?_) <;> (try simp only [hg]) <;> (try simp only [seval, go_sem]))
   ·have h3k : kind = 3 := by simpa using hg
    refine gO ?_
    have hc := crdhear_s c e0.crx ⟨kind, seq, ack, poll, fin, say, seg, len, data⟩ _ _ z hR.e0.kj hx (by omega) hjl (by show data.length ≤ _; omega)
    simp only [crdHearG_ok (c := c) (r := e0.crx) (f := ⟨kind, seq, ack, poll, fin, say, seg, len, data⟩) ⟨cfgOk_iff.2 hI.ctx.cfg, crxOk_iff.2 hI.crx, h3k, hf⟩] at hc
    refine tT ?_; refine callP (hc) rfl rfl ?_; rintro u z1 hz1 ⟨_, _, rfl, ⟨A3, k3, cs3, rfl, hk3, he3, hr3⟩, A4, k4, cs4, rfl, hk4, he4, hr4⟩; refine gO ?_
    have hho := crdHear_ok (c := c) (f := ⟨kind, seq, ack, poll, fin, say, seg, len, data⟩) hI.crx (frm3 hf h3k)
    have h3 : By z1 (crdHear c e0.crx ⟨kind, seq, ack, poll, fin, say, seg, len, data⟩).1.join.got (.slice A3 (crdHear c e0.crx ⟨kind, seq, ack, poll, fin, say, seg, len, data⟩).1.join.got.length k3) := ⟨_, _, _, rfl, hk3, he3, hr3⟩
    have hR1 : WldR z1 e0 e1 n0 n1 m := ⟨hR.e0.mono hz1, hR.e1.mono hz1, hR.n0, hR.n1⟩
    ((first | refine ⟨⟨by omega, hE⟩, ?_⟩ | refine ⟨hE, ?_⟩); (try simp only [seval, go_sem]))
    (refine stoV_row 10 rfl rfl rfl rfl rfl rfl rfl (by rw [endsC_len]; simp) ?_; simp only [seval, go_sem, ends_crx0]; refine gO ?_)
    have hR2 : WldR z1 { e0 with crx := (crdHear c e0.crx ⟨kind, seq, ack, poll, fin, say, seg, len, data⟩).1 } e1 n0 n1 { m with m0 := { m.m0 with kA := A3, kC := k3 } } := ⟨{ hR1.e0 with kj := h3 }, hR1.e1, hR.n0, hR.n1⟩
    refine wT ?_
    refine tT ?_; refine callW 999 (l9tell0 c link { e0 with crx := (crdHear c e0.crx ⟨kind, seq, ack, poll, fin, say, seg, len, data⟩).1 } e1 n0 n1 { m with m0 := { m.m0 with kA := A3, kC := k3 } } (crdHear c e0.crx ⟨kind, seq, ack, poll, fin, say, seg, len, data⟩).2 (.slice A4 (crdHear c e0.crx ⟨kind, seq, ack, poll, fin, say, seg, len, data⟩).2.length k4) z1 hR2 ⟨A4, k4, cs4, rfl, hk4, he4, hr4⟩ (by have := hho.2.2; omega) hI.got.1) rfl rfl rfl rfl ?_; rintro v z2 A' hz2 ⟨f0, f1, g0, g1, m', hw1, hw2, hw3, rfl, rfl, hR3⟩; refine gO ?_
    refine fP ?_
    rw [show hearC c e0 ⟨kind, seq, ack, poll, fin, say, seg, len, data⟩ = { e0 with crx := (crdHear c e0.crx ⟨kind, seq, ack, poll, fin, say, seg, len, data⟩).1, got := tell e0.got (crdHear c e0.crx ⟨kind, seq, ack, poll, fin, say, seg, len, data⟩).2 } by unfold hearC; rw [if_neg h4, if_pos h3k]]
    exact ⟨f0, f1, g0, g1, m', hw1, hw2, hw3, rfl, rfl, hR3⟩
   ·have h3k : kind ≠ 3 := by simpa using hg
    refine gO ?_
    refine wS ?_
    rw [show hearC c e0 ⟨kind, seq, ack, poll, fin, say, seg, len, data⟩ = e0 by unfold hearC; rw [if_neg h4, if_neg h3k]]
    exact ⟨e0, e1, n0, n1, m, rfl, rfl, rfl, rfl, rfl, hR⟩
theorem l9frame_c1 (c : Cfg) (link : Int) (e0 e1 : End) (n0 n1 : List Msg) (m : WM) (f : Frm) (x : Value) (z : Zc) (hR : WldR z e0 e1 n0 n1 m) (hI : EndI c e1) (hm : c.mode = 2) (hf : frmOk f = true) (hx : By z f.data x) :
  Spec Tryz.prog 128 [wldV c link m, .int .i64 1, vFrm f x] z (wldA e0 e1 n0 n1 m) (WldH c ⟨c, [e0, e1].set 1 (hearC c e1 f), [n0, n1], link⟩) := by
 obtain ⟨Ax, kx, rfl, hkx, hBx, hrx⟩ := hx.form
 have hfb := frmOk_bound hf
 have hp8 := hI.ctx.small
 have hq24 := hI.ctx.queue
 have hj23 := hI.crx.2.le
 have hjl : -1000000000 ≤ e1.crx.join.len := by have := hI.crx.2; rcases this with h | h <;> omega
 obtain ⟨kind, seq, ack, poll, fin, say, seg, len, data⟩ := f
 dsimp only at *
 refine eL kyR k128 ?_
 refine vsI.atR 10 rfl fun hE => ?_
 have hE := hE (by omega)
 refine gO ?_
 (with_reducible refine condI.split (fun hg => ?_) (fun hg => ?_) <;> (try simp only [hg]) <;> (try simp only [seval, go_sem]))
 ·exfalso
  simp [hm] at hg
 ·refine gO ?_
  ((first | refine ⟨⟨by omega, hE⟩, ?_⟩ | refine ⟨hE, ?_⟩); (try simp only [seval, go_sem]))
  (refine ldF.agg (sz := 28) _ rfl (by exact .inr ⟨10, _, _, _, _, _, rfl, fun i u hu => ends_get1 hu⟩) ?_; simp only [seval, go_sem, endC]; refine gO ?_)
  (with_reducible refine condI.split (fun hg => ?_) (fun hg => ?_) <;> (try simp only [hg]) <;> (try simp only [seval, go_sem]))
  ·have h4 : kind = 4 := by simpa using hg
   refine gO ?_
   have hc := crdtake_s c e1.ctx len _ z hR.e1.cq (by omega) (fun p hp => by have := hp8 p hp; omega)
   simp only [crdTakeG_ok hI.ctx (frm4 hf h4)] at hc
   refine tT ?_; refine callP (hc) rfl rfl ?_; rintro u z1 hz1 ⟨_, rfl, A3, k3, cs3, rfl, hk3, he3, hr3⟩; refine gO ?_
   have hR1 : WldR z1 e0 e1 n0 n1 m := ⟨hR.e0.mono hz1, hR.e1.mono hz1, hR.n0, hR.n1⟩
   ((first | refine ⟨⟨by omega, hE⟩, ?_⟩ | refine ⟨hE, ?_⟩); (try simp only [seval, go_sem]))
   (refine stoV_row 10 rfl rfl rfl rfl rfl rfl rfl (by rw [endsC_len]; simp) ?_; simp only [seval, go_sem, ends_ctx1]; refine gO ?_)
   (with_reducible refine condI.split (fun hg => ?_) (fun hg => ?_) <;> (try simp only [hg]) <;> (try simp only [seval, go_sem]))
   ·exfalso
    simp [h4] at hg
   ·refine gO ?_
    refine wS ?_
    rw [show hearC c e1 ⟨kind, seq, ack, poll, fin, say, seg, len, data⟩ = { e1 with ctx := crdTake e1.ctx len } by unfold hearC; rw [if_pos h4]]
    exact ⟨e0, _, n0, n1, { m with m1 := { m.m1 with cA := A3, cC := k3 } }, rfl, rfl, rfl, rfl, rfl, ⟨hR1.e0, { hR1.e1 with cq := ⟨_, _, _, rfl, hk3, he3, hr3⟩ }, hR.n0, hR.n1⟩⟩
  ·have h4 : kind ≠ 4 := by simpa using hg
   refine gO ?_
   (with_reducible refine condI.split (fun hg => ?_) (fun hg => ?_) <;> (try simp only [hg]) <;> (try simp only [seval, go_sem]))
   ·have h3k : kind = 3 := by simpa using hg
    refine gO ?_
    have hc := crdhear_s c e1.crx ⟨kind, seq, ack, poll, fin, say, seg, len, data⟩ _ _ z hR.e1.kj hx (by omega) hjl (by show data.length ≤ _; omega)
    simp only [crdHearG_ok (c := c) (r := e1.crx) (f := ⟨kind, seq, ack, poll, fin, say, seg, len, data⟩) ⟨cfgOk_iff.2 hI.ctx.cfg, crxOk_iff.2 hI.crx, h3k, hf⟩] at hc
    refine tT ?_; refine callP (hc) rfl rfl ?_; rintro u z1 hz1 ⟨_, _, rfl, ⟨A3, k3, cs3, rfl, hk3, he3, hr3⟩, A4, k4, cs4, rfl, hk4, he4, hr4⟩; refine gO ?_
    have hho := crdHear_ok (c := c) (f := ⟨kind, seq, ack, poll, fin, say, seg, len, data⟩) hI.crx (frm3 hf h3k)
    have h3 : By z1 (crdHear c e1.crx ⟨kind, seq, ack, poll, fin, say, seg, len, data⟩).1.join.got (.slice A3 (crdHear c e1.crx ⟨kind, seq, ack, poll, fin, say, seg, len, data⟩).1.join.got.length k3) := ⟨_, _, _, rfl, hk3, he3, hr3⟩
    have hR1 : WldR z1 e0 e1 n0 n1 m := ⟨hR.e0.mono hz1, hR.e1.mono hz1, hR.n0, hR.n1⟩
    ((first | refine ⟨⟨by omega, hE⟩, ?_⟩ | refine ⟨hE, ?_⟩); (try simp only [seval, go_sem]))
    (refine stoV_row 10 rfl rfl rfl rfl rfl rfl rfl (by rw [endsC_len]; simp) ?_; simp only [seval, go_sem, ends_crx1]; refine gO ?_)
    have hR2 : WldR z1 e0 { e1 with crx := (crdHear c e1.crx ⟨kind, seq, ack, poll, fin, say, seg, len, data⟩).1 } n0 n1 { m with m1 := { m.m1 with kA := A3, kC := k3 } } := ⟨hR1.e0, { hR1.e1 with kj := h3 }, hR.n0, hR.n1⟩
    refine wT ?_
    refine tT ?_; refine callW 999 (l9tell1 c link e0 { e1 with crx := (crdHear c e1.crx ⟨kind, seq, ack, poll, fin, say, seg, len, data⟩).1 } n0 n1 { m with m1 := { m.m1 with kA := A3, kC := k3 } } (crdHear c e1.crx ⟨kind, seq, ack, poll, fin, say, seg, len, data⟩).2 (.slice A4 (crdHear c e1.crx ⟨kind, seq, ack, poll, fin, say, seg, len, data⟩).2.length k4) z1 hR2 ⟨A4, k4, cs4, rfl, hk4, he4, hr4⟩ (by have := hho.2.2; omega) hI.got.1) rfl rfl rfl rfl ?_; rintro v z2 A' hz2 ⟨f0, f1, g0, g1, m', hw1, hw2, hw3, rfl, rfl, hR3⟩; refine gO ?_
    refine fP ?_
    rw [show hearC c e1 ⟨kind, seq, ack, poll, fin, say, seg, len, data⟩ = { e1 with crx := (crdHear c e1.crx ⟨kind, seq, ack, poll, fin, say, seg, len, data⟩).1, got := tell e1.got (crdHear c e1.crx ⟨kind, seq, ack, poll, fin, say, seg, len, data⟩).2 } by unfold hearC; rw [if_neg h4, if_pos h3k]]
    exact ⟨f0, f1, g0, g1, m', hw1, hw2, hw3, rfl, rfl, hR3⟩
   ·have h3k : kind ≠ 3 := by simpa using hg
    refine gO ?_
    refine wS ?_
    rw [show hearC c e1 ⟨kind, seq, ack, poll, fin, say, seg, len, data⟩ = e1 by unfold hearC; rw [if_neg h4, if_neg h3k]]
    exact ⟨e0, e1, n0, n1, m, rfl, rfl, rfl, rfl, rfl, hR⟩
end Go.Proofs.YtllafcmkppmdgaaGreat
