/- No more is on its way than may be: the law's walk. -/
import Derived.Test.YtllafcmkppmdgaaGreatB22
import Derived.Test.YtllafcmkppmdgaaGreatB34
namespace Go.Proofs.YtllafcmkppmdgaaGreat
open Go.RowKit
set_option linter.unusedVariables false
set_option linter.unusedSimpArgs false
set_option maxRecDepth 100000
set_option maxHeartbeats 8000000
theorem wldRoom_law (code : List Int) (v : Value) (z : Zc) (h : By z code v) : PSpec Tryz.prog 5 [v] z fun u z' => u = .bool true := by
 obtain ⟨A0, c0, rfl, hc0, hB0, hr0⟩ := h.form
 refine eP k5 ?_
 refine gO ?_
 (with_reducible refine condI.split (fun hg => ?_) (fun hg => ?_) <;> (try simp only [hg]) <;> (try simp only [seval, go_sem]))
 ·(first|refine fN ?_|exact fZ)
 have hlen : code.length ≤ 1048576 := by have := of_decide_eq_false hg; omega
 refine gO ?_
 refine tT ?_; refine callP (drawWild_s code _ z h (by omega)) rfl rfl ?_; rintro u z1 hz1 ⟨c, evs, B, kB, rfl, hE, hc, hev, hel⟩; refine gO ?_
 refine tT ?_; refine callP (wldnew_i c z1 hc) rfl rfl ?_; rintro u z2 hz2 ⟨e0, e1, n0, n1, m, link, hw0, rfl, hP⟩; refine gO ?_
 have hI0 := wldNew_W hc
 rw [hw0] at hI0
 obtain ⟨cs, hEe, hEr⟩ := Els.one1 hE
 refine loop_upd (ι := RunS) (n := 2) (LawW z2 c evs.length) (fun s => [(6, .c (.v (.int .i64 s.i)))]) (fun s => [(0, .cells 24 (c5 c)), (1, .cells tyW (wldE c s.link s.m))]) (fun s => s.z) (fun s => evs.length - s.i) ⟨0, e0, e1, n0, n1, link, m, z2⟩ ⟨Zc.rfl' _, by simp, hP, hI0⟩ (by (simp only [wrI, wrR, anyL, st, List.append_nil, List.nil_append, List.cons_append]); exact rfl) ?_ ?_
 ·simp only [wldE]
  exact lX
 ·rintro ⟨i, e0, e1, n0, n1, link, m, z3⟩ ⟨hz3, hi, hP, hI⟩
  dsimp only at *
  simp only [wldE]
  refine gO ?_
  (with_reducible refine condI.split (fun hg => ?_) (fun hg => ?_) <;> (try simp only [hg]) <;> (try simp only [seval, go_sem]))
  ·have hi' : i < evs.length := by have := of_decide_eq_true hg; omega
   obtain ⟨ev, hx⟩ : ∃ x, evs[i]? = some x := ⟨_, List.getElem?_eq_getElem hi'⟩
   have hed := hev ev (List.mem_of_getElem? hx)
   have hz13 := Zc.trans' hz2 hz3
   obtain ⟨c1, ⟨v, rfl, hb⟩, hr1⟩ := (hEe.mono hz13).at (hEr.mono hz13) hx
   obtain ⟨A1, k1, rfl, hk1, hB1, hrb⟩ := By.form hb
   have hat : IsAt B := hEe.isAt hEr (by decide) hi'
   refine gO ?_
   (refine ⟨⟨by omega, by omega, hat⟩, ?_⟩; (try simp only [seval, go_sem]))
   (refine ldF.agg _ rfl (by first | exact .inl hr1 | exact hr1) ?_; (try simp only [seval, go_sem]))
   refine gO ?_
   refine tT ?_; refine callP (wldstep_i QW stepP_W c link e0 e1 n0 n1 m ev (.slice A1 ev.data.length k1) z3 hP hI.ok hb hed) rfl rfl ?_; rintro u z4 hz4 ⟨f0, f1, g0, g1, m5, lk, hw, rfl, hP5⟩; refine gO ?_
   have hI5 := step_W (g := false) hI ev
   rw [hw] at hI5
   refine gO ?_
   refine loop_upd (ι := Nat) (n := 2) (fun k => k ≤ 2) (fun k => [(7, .c (.v (.int .i64 k)))]) (fun _ => [(0, .cells 24 (c5 c)), (1, .cells tyW (wldE c lk m5))]) (fun _ => z4) (fun k => 2 - k) 0 (by omega) (by (simp only [wrI, wrR, anyL, st, List.append_nil, List.nil_append, List.cons_append]); exact rfl) ?_ ?_
   ·simp only [wldE]
    exact lX
   ·intro k hk
    simp only [wldE]
    have hk3 : k = 0 ∨ k = 1 ∨ k = 2 := by omega
    rcases hk3 with rfl | rfl | rfl
    ·refine gO ?_
     ((first | refine ⟨⟨by omega, hP5.atE⟩, ?_⟩ | refine ⟨hP5.atE, ?_⟩); (try simp only [seval, go_sem]))
     (refine ldF.agg _ rfl (by first | exact .inl hP5.all0 | exact hP5.all0) ?_; (try simp only [seval, go_sem]))
     refine gO ?_
     ((first | refine ⟨⟨by omega, hP5.atN⟩, ?_⟩ | refine ⟨hP5.atN, ?_⟩); (try simp only [seval, go_sem]))
     (refine ldF.one _ (by first | exact .inl (hP5.N.cell 0 rfl) | exact (hP5.N.cell 0 rfl)) ?_; (try simp only [seval, go_sem]))
     have q1 : g0.length ≤ 30 := (hI5.ok.net 0 (by omega)).1
     have q2 : f0.tx.queue.length ≤ 24 := (hI5.ok.ends 0 (by omega)).tx.queue
     have q3 : f0.ctx.queue.length ≤ 24 := (hI5.ok.ends 0 (by omega)).ctx.queue
     have q4 : (f0.tx.flight.length : Int) ≤ c.win := (hI5.ok.ends 0 (by omega)).tx.win
     have d1 : decide ((g0.length : Int) > 30) = false := decide_eq_false (by omega)
     have d2 : decide ((f0.tx.queue.length : Int) > 24) = false := decide_eq_false (by omega)
     have d3 : decide ((f0.ctx.queue.length : Int) > 24) = false := decide_eq_false (by omega)
     have d4 : decide ((f0.tx.flight.length : Int) > c.win) = false := decide_eq_false (by omega)
     repeat (simp only [seval, go_sem, d1, d2, d3, d4]; refine gO ?_)
     refine ⟨1, by omega, by omega, ?_⟩
     exact lX
    ·refine gO ?_
     ((first | refine ⟨⟨by omega, hP5.atE⟩, ?_⟩ | refine ⟨hP5.atE, ?_⟩); (try simp only [seval, go_sem]))
     (refine ldF.agg _ rfl (by first | exact .inl hP5.all1 | exact hP5.all1) ?_; (try simp only [seval, go_sem]))
     refine gO ?_
     ((first | refine ⟨⟨by omega, hP5.atN⟩, ?_⟩ | refine ⟨hP5.atN, ?_⟩); (try simp only [seval, go_sem]))
     (refine ldF.one _ (by first | exact .inl (hP5.N.cell 1 rfl) | exact (hP5.N.cell 1 rfl)) ?_; (try simp only [seval, go_sem]))
     have q1 : g1.length ≤ 30 := (hI5.ok.net 1 (by omega)).1
     have q2 : f1.tx.queue.length ≤ 24 := (hI5.ok.ends 1 (by omega)).tx.queue
     have q3 : f1.ctx.queue.length ≤ 24 := (hI5.ok.ends 1 (by omega)).ctx.queue
     have q4 : (f1.tx.flight.length : Int) ≤ c.win := (hI5.ok.ends 1 (by omega)).tx.win
     have d1 : decide ((g1.length : Int) > 30) = false := decide_eq_false (by omega)
     have d2 : decide ((f1.tx.queue.length : Int) > 24) = false := decide_eq_false (by omega)
     have d3 : decide ((f1.ctx.queue.length : Int) > 24) = false := decide_eq_false (by omega)
     have d4 : decide ((f1.tx.flight.length : Int) > c.win) = false := decide_eq_false (by omega)
     repeat (simp only [seval, go_sem, d1, d2, d3, d4]; refine gO ?_)
     refine ⟨2, by omega, by omega, ?_⟩
     exact lX
    ·refine gO ?_
     refine ⟨⟨i + 1, f0, f1, g0, g1, lk, m5, z4⟩, ⟨Zc.trans' hz3 hz4, by dsimp only; omega, hP5, hI5⟩, by dsimp only; omega, ?_⟩
     exact lX
  ·refine gO ?_
   refine tT ?_; refine callP (wldok_i c link e0 e1 n0 n1 m z3 hP hI.ok) rfl rfl ?_; rintro u z5 hz5 rfl; refine gO ?_
   refine gO ?_
   refine tT ?_; refine callP (liok z5) rfl rfl ?_; rintro _ _ - ⟨rfl, rfl⟩; refine gO ?_
   (first|refine fN ?_|exact fZ)
end Go.Proofs.YtllafcmkppmdgaaGreat
