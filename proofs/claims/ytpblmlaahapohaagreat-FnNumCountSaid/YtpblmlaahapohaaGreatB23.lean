/- Numbers that come round: the law's walk. -/
import Derived.Test.YtpblmlaahapohaaGreatB22
namespace Go.Proofs.YtpblmlaahapohaaGreat
open Go.RowKit
set_option linter.unusedVariables false
set_option linter.unusedSimpArgs false
set_option maxRecDepth 100000
set_option maxHeartbeats 8000000
theorem numCount_law (code : List Int) (v : Value) (z : Zc) (h : By z code v) : PSpec Tryz.prog 5 [v] z fun u z' => u = .bool true := by
  obtain ⟨A0, c0, rfl, hc0, hB0, hr0⟩ := h.form
  (refine pspec_enter Tryz.func5 ic5_ok fr5_ok Tryz.ntmps5 ?_; simp only [seval, go_sem, ic5, fr5])
  refine gO ?_
  (with_reducible refine condI.split (fun hg => ?_) (fun hg => ?_) <;> (try simp only [hg]) <;> (try simp only [seval, go_sem]))
  · (first|refine fN ?_|exact fZ)
  have hlen : code.length ≤ 1048576 := by have := of_decide_eq_false hg; omega
  refine gO ?_
  refine tT ?_; refine callP (drawPlay_s code _ z h (by omega)) rfl rfl ?_; rintro u z1 hz1 ⟨c, evs, B, kB, rfl, hE, hc, hm, hev, hel⟩; refine gO ?_
  refine tT ?_; refine callP (wldnew_i c z1 hc) rfl rfl ?_; rintro u z2 hz2 ⟨e0, e1, n0, n1, m, link, hw0, rfl, hP⟩; refine gO ?_
  have hI0 := wldNew_N hc hm
  rw [hw0] at hI0
  obtain ⟨cs, hEe, hEr⟩ := Els.one1 hE
  refine loop_upd (ι := RunS) (n := 2) (LawI z2 c evs.length) (fun s => [(6, .c (.v (.int .i64 s.i)))]) (fun s => [(0, .cells 24 (c5 c)), (1, .cells tyW (wldE c s.link s.m))]) (fun s => s.z) (fun s => evs.length - s.i) ⟨0, e0, e1, n0, n1, link, m, z2⟩ ⟨Zc.rfl' _, by simp, hP, hI0⟩ (by (simp only [wrI, wrR, anyL, st, List.append_nil, List.nil_append, List.cons_append]); exact rfl) ?_ ?_
  · simp only [wldE]
    exact lX
  · rintro ⟨i, e0, e1, n0, n1, link, m, z3⟩ ⟨hz3, hi, hP, hI⟩
    dsimp only at *
    simp only [wldE]
    refine gO ?_
    (with_reducible refine condI.split (fun hg => ?_) (fun hg => ?_) <;> (try simp only [hg]) <;> (try simp only [seval, go_sem]))
    · have hi' : i < evs.length := by have := of_decide_eq_true hg; omega
      obtain ⟨ev, hx⟩ : ∃ x, evs[i]? = some x := ⟨_, List.getElem?_eq_getElem hi'⟩
      have hed := hev ev (List.mem_of_getElem? hx)
      have hz13 := Zc.trans' hz2 hz3
      obtain ⟨c1, ⟨v, rfl, hb⟩, hr1⟩ := (hEe.mono hz13).at (hEr.mono hz13) hx
      obtain ⟨A1, k1, rfl, hk1, hB1, hrb⟩ := By.form hb
      have hat : IsAt B := hEe.isAt hEr (by decide) hi'
      refine gO ?_
      (refine ⟨⟨by omega, by omega, hat⟩, ?_⟩; (try simp only [seval, go_sem]))
      (refine ldF.agg _ rfl (by first | exact .inl hr1 | exact hr1) ?_; (try simp only [seval, go_sem]))
      refine gO ?_
      refine tT ?_; refine callP (wldstep_i QN stepP_N c link e0 e1 n0 n1 m ev (.slice A1 ev.data.length k1) z3 hP hI.ok hb (hI.stepOk hed)) rfl rfl ?_; rintro u z4 hz4 ⟨f0, f1, g0, g1, m5, lk, hw, rfl, hP5⟩; refine gO ?_
      have hI5 := step_N (g := false) hI ev hB1 (by omega)
      rw [hw] at hI5
      refine tT ?_; refine callP (wldok_i c lk f0 f1 g0 g1 m5 z4 hP5 hI5.ok) rfl rfl ?_; rintro u z5 hz5 rfl; refine gO ?_
      have hP6 := hP5.mono hz5
      obtain ⟨a1, a2, a3⟩ := hI5.counts (i := 0) (by omega)
      obtain ⟨b1, b2, b3⟩ := hI5.counts (i := 1) (by omega)
      have q0 : EndI c f0 := hI5.ok.ends 0 (by omega)
      have q1 : EndI c f1 := hI5.ok.ends 1 (by omega)
      change f0.tx.count ≤ f1.rx.count at a1
      change f1.tx.count ≤ f0.rx.count at b1
      change f1.rx.count ≤ f0.tx.count + f0.tx.flight.length at a2
      change f0.rx.count ≤ f1.tx.count + f1.tx.flight.length at b2
      change (f0.tx.flight.length : Int) ≤ c.win at a3
      change (f1.tx.flight.length : Int) ≤ c.win at b3
      have p0 := q0.tx.count
      have p1 := q1.tx.count
      have w4 := hc.win
      refine gO ?_
      refine loopV.rounds 3 ?_
      rw [roundsV_succ]
      try simp only [show IntKind.i64.wrap 1 = 1 from rfl]
      refine gO ?_
      ((first | refine ⟨⟨by omega, hP6.atE⟩, ?_⟩ | refine ⟨hP6.atE, ?_⟩); (try simp only [seval, go_sem]))
      (refine ldF.agg _ rfl (by first | exact .inl hP6.tx0 | exact hP6.tx0) ?_; (try simp only [seval, go_sem]))
      refine gO ?_
      try simp only [wr10]
      (refine ⟨⟨by omega, by omega, hP6.atE⟩, ?_⟩; (try simp only [seval, go_sem]))
      (refine ldF.agg _ rfl (by first | exact .inl hP6.rx1 | exact hP6.rx1) ?_; (try simp only [seval, go_sem]))
      refine gO ?_
      have x1 : decide (f0.tx.count > f1.rx.count) = false := decide_eq_false (by omega)
      have x2 : IntKind.i64.wrap (f0.tx.count + (f0.tx.flight.length : Int)) = f0.tx.count + f0.tx.flight.length := wrap_in (by omega) (by omega)
      have x3 : decide (f1.rx.count > f0.tx.count + (f0.tx.flight.length : Int)) = false := decide_eq_false (by omega)
      have x4 : decide ((f0.tx.flight.length : Int) > c.win) = false := decide_eq_false (by omega)
      repeat (simp only [seval, go_sem, x1, x2, x3, x4]; refine gO ?_)
      simp only [seval, go_sem, roundK_normal]
      rw [roundsV_succ]
      try simp only [show IntKind.i64.wrap 1 = 1 from rfl]
      refine gO ?_
      ((first | refine ⟨⟨by omega, hP6.atE⟩, ?_⟩ | refine ⟨hP6.atE, ?_⟩); (try simp only [seval, go_sem]))
      (refine ldF.agg _ rfl (by first | exact .inl hP6.tx1 | exact hP6.tx1) ?_; (try simp only [seval, go_sem]))
      refine gO ?_
      try simp only [wr11]
      (refine ⟨⟨by omega, by omega, hP6.atE⟩, ?_⟩; (try simp only [seval, go_sem]))
      (refine ldF.agg _ rfl (by first | exact .inl hP6.rx0 | exact hP6.rx0) ?_; (try simp only [seval, go_sem]))
      refine gO ?_
      have x1 : decide (f1.tx.count > f0.rx.count) = false := decide_eq_false (by omega)
      have x2 : IntKind.i64.wrap (f1.tx.count + (f1.tx.flight.length : Int)) = f1.tx.count + f1.tx.flight.length := wrap_in (by omega) (by omega)
      have x3 : decide (f0.rx.count > f1.tx.count + (f1.tx.flight.length : Int)) = false := decide_eq_false (by omega)
      have x4 : decide ((f1.tx.flight.length : Int) > c.win) = false := decide_eq_false (by omega)
      repeat (simp only [seval, go_sem, x1, x2, x3, x4]; refine gO ?_)
      simp only [seval, go_sem, roundK_normal]
      rw [roundsV_succ]
      try simp only [show IntKind.i64.wrap 2 = 2 from rfl]
      refine gO ?_
      simp only [seval, go_sem, roundK_exit]
      refine gO ?_
      refine ⟨⟨i + 1, f0, f1, g0, g1, lk, m5, z5⟩, ⟨Zc.trans' hz3 (Zc.trans' hz4 hz5), by dsimp only; omega, hP6, hI5⟩, by dsimp only; omega, ?_⟩
      exact lX
    · refine gO ?_
      refine tT ?_; refine callP (liok z3) rfl rfl ?_; rintro _ _ - ⟨rfl, rfl⟩; refine gO ?_
      (first|refine fN ?_|exact fZ)
end Go.Proofs.YtpblmlaahapohaaGreat
