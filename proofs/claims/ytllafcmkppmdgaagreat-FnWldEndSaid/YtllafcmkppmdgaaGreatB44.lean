/- Who is at its end is so for good: the law's walk. -/
import Derived.Test.YtllafcmkppmdgaaGreatB22
import Derived.Test.YtllafcmkppmdgaaGreatB43
import Derived.Test.YtllafcmkppmdgaaGreatB26
namespace Go.Proofs.YtllafcmkppmdgaaGreat
open Go.RowKit
set_option linter.unusedVariables false
set_option linter.unusedSimpArgs false
set_option maxRecDepth 100000
set_option maxHeartbeats 8000000
theorem wldEnd_law (code : List Int) (v : Value) (z : Zc) (h : By z code v) : PSpec Tryz.prog 8 [v] z fun u z' => u = .bool true := by
 obtain ⟨A0, c0, rfl, hc0, hB0, hr0⟩ := h.form
 refine eP k8 ?_
 refine gO ?_
 (with_reducible refine condI.split (fun hg => ?_) (fun hg => ?_) <;> (try simp only [hg]) <;> (try simp only [seval, go_sem]))
 ·(first|refine fN ?_|exact fZ)
 have hlen : code.length ≤ 1048576 := by have := of_decide_eq_false hg; omega
 refine gO ?_
 refine tT ?_; refine callP (drawWild_s code _ z h (by omega)) rfl rfl ?_; rintro u z1 hz1 ⟨c, evs, B, kB, rfl, hE, hc, hev, hel⟩; refine gO ?_
 refine tT ?_; refine callP (wldnew_i c z1 hc) rfl rfl ?_; rintro u z2 hz2 ⟨e0, e1, n0, n1, m, link, hw0, rfl, hP⟩; refine gO ?_
 have hI0 := wldNew_W hc
 rw [hw0] at hI0
 obtain ⟨cs, hEe, hEr⟩ := Els.one1 hE
 refine loop_upd (ι := RunS) (n := 2) (LawW z2 c evs.length) (fun s => [(6, .c (.v (.int .i64 s.i)))]) (fun s => [(0, .cells 24 (c5 c)), (1, .cells tyW (wldE c s.link s.m))]) (fun s => s.z) (fun s => evs.length - s.i) ⟨0, e0, e1, n0, n1, link, m, z2⟩ ⟨Zc.rfl' _, by simp, hP, hI0⟩ (by (simp only [wrI, wrR, anyL, st, List.append_nil, List.nil_append, List.cons_append]); exact rfl) ?_ ?_
 ·simp only [wldE]
  exact lX
 ·rintro ⟨i, e0, e1, n0, n1, link, m, z3⟩ ⟨hz3, hi, hP, hI⟩
  dsimp only at *
  simp only [wldE]
  refine gO ?_
  (with_reducible refine condI.split (fun hg => ?_) (fun hg => ?_) <;> (try simp only [hg]) <;> (try simp only [seval, go_sem]))
  ·have hi' : i < evs.length := by have := of_decide_eq_true hg; omega
   obtain ⟨ev, hx⟩ : ∃ x, evs[i]? = some x := ⟨_, List.getElem?_eq_getElem hi'⟩
   have hed := hev ev (List.mem_of_getElem? hx)
   have hz13 := Zc.trans' hz2 hz3
   obtain ⟨c1, ⟨v, rfl, hb⟩, hr1⟩ := (hEe.mono hz13).at (hEr.mono hz13) hx
   obtain ⟨A1, k1, rfl, hk1, hB1, hrb⟩ := By.form hb
   have hat : IsAt B := hEe.isAt hEr (by decide) hi'
   refine gO ?_
   refine joinV.le (ι := RunS) (fun s => z3 ≤ s.z ∧ step false ⟨c, [e0, e1], [n0, n1], link⟩ ev = ⟨c, [s.e0, s.e1], [s.n0, s.n1], s.link⟩ ∧ WldP s.z s.e0 s.e1 s.n0 s.n1 s.m) [7, 27, 28, 29, 30, 31, 32] (fun _ => [(7, .c (.p 2 0))])
    (fun s => [(0, .cells 24 (c5 c)), (1, .cells tyW (wldE c link m)), (2, .cells tyW (wldE c s.link s.m))]) (fun s => s.z) 3 (by simp only [anyL, st]; exact rfl) ?_ ?_
   ·simp only [seval, go_sem]
    (refine ⟨⟨by omega, by omega, hat⟩, ?_⟩; (try simp only [seval, go_sem]))
    (refine ldF.agg _ rfl (by first | exact .inl hr1 | exact hr1) ?_; (try simp only [seval, go_sem]))
    repeat' (refine And.intro ?_ ?_ <;> (try simp only [seval, go_sem]))
    all_goals refine tT ?_; refine callP (wldstep_i QW stepP_W c link e0 e1 n0 n1 m ev (.slice A1 ev.data.length k1) z3 hP hI.ok hb hed) rfl rfl ?_; rintro u z4 hz4 ⟨f0, f1, g0, g1, m5, lk, hw, rfl, hP5⟩; refine gO ?_
    all_goals refine ⟨⟨0, f0, f1, g0, g1, lk, m5, z4⟩, ⟨hz4, hw, hP5⟩, ?_⟩
    all_goals simp only [wldE]
    all_goals exact lX
   ·rintro ⟨_, f0, f1, g0, g1, lk, m5, z4⟩ ⟨hz4, hw, hP5⟩
    dsimp only at *
    simp only [wldE]
    have hI5 := step_W (g := false) hI ev
    rw [hw] at hI5
    have hP4 := hP.mono hz4
    refine gO ?_
    refine loop_upd (ι := Nat) (n := 3) (fun k => k ≤ 2) (fun k => [(8, .c (.v (.int .i64 k)))]) (fun _ => [(0, .cells 24 (c5 c)), (1, .cells tyW (wldE c link m)), (2, .cells tyW (wldE c lk m5))]) (fun _ => z4) (fun k => 2 - k) 0 (by omega) (by (simp only [wrI, wrR, anyL, st, List.append_nil, List.nil_append, List.cons_append]); exact rfl) ?_ ?_
    ·simp only [wldE]
     exact lX
    ·intro k hk
     simp only [wldE]
     have hk3 : k = 0 ∨ k = 1 ∨ k = 2 := by omega
     rcases hk3 with rfl | rfl | rfl
     ·refine gO ?_
      ((first | refine ⟨⟨by omega, hP.atE⟩, ?_⟩ | refine ⟨hP.atE, ?_⟩); (try simp only [seval, go_sem]))
      (refine ldF.agg _ rfl (by first | exact .inl hP4.all0 | exact hP4.all0) ?_; (try simp only [seval, go_sem]))
      refine gO ?_
      ((first | refine ⟨⟨by omega, hP5.atE⟩, ?_⟩ | refine ⟨hP5.atE, ?_⟩); (try simp only [seval, go_sem]))
      (refine ldF.agg _ rfl (by first | exact .inl hP5.all0 | exact hP5.all0) ?_; (try simp only [seval, go_sem]))
      refine gO ?_
      have hdd := se_dead hI.ok (i := 0) (by omega) (hI.ends 0 (by omega)) (step_se (g := false) hI.ok ev (i := 0) (by omega))
      rw [hw] at hdd
      change (e0.tx.dead = true → f0.tx = e0.tx) ∧ (e0.ctx.dead = true → f0.ctx = e0.ctx) ∧ (e0.rx.dead = true → f0.rx.dead = true ∧ f0.got = e0.got) ∧ (e0.crx.dead = true → f0.crx = e0.crx ∧ f0.got = e0.got) at hdd
      obtain ⟨q1, q2, q3, q4⟩ := hdd
      have a0 : EndI c e0 := hI.ok.ends 0 (by omega)
      have hwn := a0.tx.win
      have hwc := a0.tx.cfg.win
      have hqq := a0.tx.queue
      have hcq := a0.ctx.queue
      have hkj := a0.crx.2.le
      have hT := fun hd : e0.tx.dead = true => litx e0.tx (.slice m.m0.fA e0.tx.flight.length m.m0.fC) (.slice m.m0.qA e0.tx.queue.length m.m0.qC) (.slice m5.m0.fA e0.tx.flight.length m5.m0.fC) (.slice m5.m0.qA e0.tx.queue.length m5.m0.qC) z4 hP4.e0.fl hP4.e0.qu (by have := hP5.e0.fl; rw [q1 hd] at this; exact this) (by have := hP5.e0.qu; rw [q1 hd] at this; exact this) (by omega) (by omega) a0.tx.fl.small a0.tx.qu.small
      have hC := fun hd : e0.ctx.dead = true => lictx e0.ctx (.slice m.m0.cA e0.ctx.queue.length m.m0.cC) (.slice m5.m0.cA e0.ctx.queue.length m5.m0.cC) z4 hP4.e0.cq (by have := hP5.e0.cq; rw [q2 hd] at this; exact this) (by omega) a0.ctx.qu.small
      have hX := fun hd : e0.crx.dead = true => licrx e0.crx (.slice m.m0.kA e0.crx.join.got.length m.m0.kC) (.slice m5.m0.kA e0.crx.join.got.length m5.m0.kC) z4 hP4.e0.kj (by have := hP5.e0.kj; rw [(q4 hd).1] at this; exact this) (by omega)
      have d0 : decide ((e0.got.length : Int) > (e0.got.length : Int)) = false := decide_eq_false (by omega)
      cases h1 : e0.tx.dead <;> cases h2 : e0.ctx.dead <;> cases h3 : e0.rx.dead <;> cases h4 : e0.crx.dead
      all_goals
       try simp only [q1 h1]
       try simp only [q2 h2]
       try simp only [(q3 h3).1, (q3 h3).2]
       try simp only [(q4 h4).1, (q4 h4).2]
       try simp only [h1, h2, h3, h4]
       refine gO ?_
       try (have hh := hT h1; simp only [vTx, h1] at hh; refine tT ?_; refine callP (hh) rfl rfl ?_; rintro _ _ - ⟨rfl, rfl⟩); refine gO ?_
       try (have hh := hC h2; simp only [vCTx, h2] at hh; refine tT ?_; refine callP (hh) rfl rfl ?_; rintro _ _ - ⟨rfl, rfl⟩); refine gO ?_
       repeat (simp only [seval, go_sem, d0, h3]; refine gO ?_)
       try (have hh := hX h4; simp only [vCRx, h4] at hh; refine tT ?_; refine callP (hh) rfl rfl ?_; rintro _ _ - ⟨rfl, rfl⟩); refine gO ?_
       repeat (simp only [seval, go_sem, d0]; refine gO ?_)
       refine ⟨1, by omega, by omega, ?_⟩
       exact lX
     ·refine gO ?_
      ((first | refine ⟨⟨by omega, hP.atE⟩, ?_⟩ | refine ⟨hP.atE, ?_⟩); (try simp only [seval, go_sem]))
      (refine ldF.agg _ rfl (by first | exact .inl hP4.all1 | exact hP4.all1) ?_; (try simp only [seval, go_sem]))
      refine gO ?_
      ((first | refine ⟨⟨by omega, hP5.atE⟩, ?_⟩ | refine ⟨hP5.atE, ?_⟩); (try simp only [seval, go_sem]))
      (refine ldF.agg _ rfl (by first | exact .inl hP5.all1 | exact hP5.all1) ?_; (try simp only [seval, go_sem]))
      refine gO ?_
      have hdd := se_dead hI.ok (i := 1) (by omega) (hI.ends 1 (by omega)) (step_se (g := false) hI.ok ev (i := 1) (by omega))
      rw [hw] at hdd
      change (e1.tx.dead = true → f1.tx = e1.tx) ∧ (e1.ctx.dead = true → f1.ctx = e1.ctx) ∧ (e1.rx.dead = true → f1.rx.dead = true ∧ f1.got = e1.got) ∧ (e1.crx.dead = true → f1.crx = e1.crx ∧ f1.got = e1.got) at hdd
      obtain ⟨q1, q2, q3, q4⟩ := hdd
      have a0 : EndI c e1 := hI.ok.ends 1 (by omega)
      have hwn := a0.tx.win
      have hwc := a0.tx.cfg.win
      have hqq := a0.tx.queue
      have hcq := a0.ctx.queue
      have hkj := a0.crx.2.le
      have hT := fun hd : e1.tx.dead = true => litx e1.tx (.slice m.m1.fA e1.tx.flight.length m.m1.fC) (.slice m.m1.qA e1.tx.queue.length m.m1.qC) (.slice m5.m1.fA e1.tx.flight.length m5.m1.fC) (.slice m5.m1.qA e1.tx.queue.length m5.m1.qC) z4 hP4.e1.fl hP4.e1.qu (by have := hP5.e1.fl; rw [q1 hd] at this; exact this) (by have := hP5.e1.qu; rw [q1 hd] at this; exact this) (by omega) (by omega) a0.tx.fl.small a0.tx.qu.small
      have hC := fun hd : e1.ctx.dead = true => lictx e1.ctx (.slice m.m1.cA e1.ctx.queue.length m.m1.cC) (.slice m5.m1.cA e1.ctx.queue.length m5.m1.cC) z4 hP4.e1.cq (by have := hP5.e1.cq; rw [q2 hd] at this; exact this) (by omega) a0.ctx.qu.small
      have hX := fun hd : e1.crx.dead = true => licrx e1.crx (.slice m.m1.kA e1.crx.join.got.length m.m1.kC) (.slice m5.m1.kA e1.crx.join.got.length m5.m1.kC) z4 hP4.e1.kj (by have := hP5.e1.kj; rw [(q4 hd).1] at this; exact this) (by omega)
      have d0 : decide ((e1.got.length : Int) > (e1.got.length : Int)) = false := decide_eq_false (by omega)
      cases h1 : e1.tx.dead <;> cases h2 : e1.ctx.dead <;> cases h3 : e1.rx.dead <;> cases h4 : e1.crx.dead
      all_goals
       try simp only [q1 h1]
       try simp only [q2 h2]
       try simp only [(q3 h3).1, (q3 h3).2]
       try simp only [(q4 h4).1, (q4 h4).2]
       try simp only [h1, h2, h3, h4]
       refine gO ?_
       try (have hh := hT h1; simp only [vTx, h1] at hh; refine tT ?_; refine callP (hh) rfl rfl ?_; rintro _ _ - ⟨rfl, rfl⟩); refine gO ?_
       try (have hh := hC h2; simp only [vCTx, h2] at hh; refine tT ?_; refine callP (hh) rfl rfl ?_; rintro _ _ - ⟨rfl, rfl⟩); refine gO ?_
       repeat (simp only [seval, go_sem, d0, h3]; refine gO ?_)
       try (have hh := hX h4; simp only [vCRx, h4] at hh; refine tT ?_; refine callP (hh) rfl rfl ?_; rintro _ _ - ⟨rfl, rfl⟩); refine gO ?_
       repeat (simp only [seval, go_sem, d0]; refine gO ?_)
       refine ⟨2, by omega, by omega, ?_⟩
       exact lX
     ·refine gO ?_
      refine ⟨⟨i + 1, f0, f1, g0, g1, lk, m5, z4⟩, ⟨Zc.trans' hz3 hz4, by dsimp only; omega, hP5, hI5⟩, by dsimp only; omega, ?_⟩
      exact lX
  ·refine gO ?_
   refine tT ?_; refine callP (wldok_i c link e0 e1 n0 n1 m z3 hP hI.ok) rfl rfl ?_; rintro u z5 hz5 rfl; refine gO ?_
   refine gO ?_
   refine tT ?_; refine callP (liok z5) rfl rfl ?_; rintro _ _ - ⟨rfl, rfl⟩; refine gO ?_
   (first|refine fN ?_|exact fZ)
end Go.Proofs.YtllafcmkppmdgaaGreat
