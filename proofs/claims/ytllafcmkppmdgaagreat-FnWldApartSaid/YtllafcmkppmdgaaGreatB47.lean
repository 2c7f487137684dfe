/- What one sends the other one alone hears: the law's walk. -/
import Derived.Test.YtllafcmkppmdgaaGreatB22
import Derived.Test.YtllafcmkppmdgaaGreatB46
import Derived.Test.YtllafcmkppmdgaaGreatB26
namespace Go.Proofs.YtllafcmkppmdgaaGreat
open Go.RowKit
set_option linter.unusedVariables false
set_option linter.unusedSimpArgs false
set_option maxRecDepth 100000
set_option maxHeartbeats 8000000
theorem wldApart_law (code : List Int) (v : Value) (z : Zc) (h : By z code v) : PSpec Tryz.prog 10 [v] z fun u z' => u = .bool true := by
 obtain ⟨A0, c0, rfl, hc0, hB0, hr0⟩ := h.form
 refine eP k10 ?_
 refine gO ?_
 (with_reducible refine condI.split (fun hg => ?_) (fun hg => ?_) <;> (try simp only [hg]) <;> (try simp only [seval, go_sem]))
 ·(first|refine fN ?_|exact fZ)
 have hlen : code.length ≤ 1048576 := by have := of_decide_eq_false hg; omega
 refine gO ?_
 refine tT ?_; refine callP (drawWild_s code _ z h (by omega)) rfl rfl ?_; rintro u z1 hz1 ⟨c, evs, B, kB, rfl, hE, hc, hev, hel⟩; refine gO ?_
 refine tT ?_; refine callP (wldnew_i c z1 hc) rfl rfl ?_; rintro u z2 hz2 ⟨e0, e1, n0, n1, m, link, hw0, rfl, hP⟩; refine gO ?_
 have hI0 := wldNew_W hc
 rw [hw0] at hI0
 obtain ⟨cs, hEe, hEr⟩ := Els.one1 hE
 refine loop_upd (ι := RunS) (n := 2) (LawW z2 c evs.length) (fun s => [(6, .c (.v (.int .i64 s.i)))]) (fun s => [(0, .cells 24 (c5 c)), (1, .cells tyW (wldE c s.link s.m))]) (fun s => s.z) (fun s => evs.length - s.i) ⟨0, e0, e1, n0, n1, link, m, z2⟩ ⟨Zc.rfl' _, by simp, hP, hI0⟩ (by (simp only [wrI, wrR, anyL, st, List.append_nil, List.nil_append, List.cons_append]); exact rfl) ?_ ?_
 ·simp only [wldE]
  exact lX
 ·rintro ⟨i, e0, e1, n0, n1, link, m, z3⟩ ⟨hz3, hi, hP, hI⟩
  dsimp only at *
  simp only [wldE]
  refine gO ?_
  (with_reducible refine condI.split (fun hg => ?_) (fun hg => ?_) <;> (try simp only [hg]) <;> (try simp only [seval, go_sem]))
  ·have hi' : i < evs.length := by have := of_decide_eq_true hg; omega
   obtain ⟨ev, hx⟩ : ∃ x, evs[i]? = some x := ⟨_, List.getElem?_eq_getElem hi'⟩
   have hed := hev ev (List.mem_of_getElem? hx)
   have hz13 := Zc.trans' hz2 hz3
   obtain ⟨c1, ⟨v, rfl, hb⟩, hr1⟩ := (hEe.mono hz13).at (hEr.mono hz13) hx
   obtain ⟨A1, k1, rfl, hk1, hB1, hrb⟩ := By.form hb
   have hat : IsAt B := hEe.isAt hEr (by decide) hi'
   refine gO ?_
   refine joinV.le (ι := RunS) (fun s => z3 ≤ s.z ∧ step false ⟨c, [e0, e1], [n0, n1], link⟩ ev = ⟨c, [s.e0, s.e1], [s.n0, s.n1], s.link⟩ ∧ WldP s.z s.e0 s.e1 s.n0 s.n1 s.m) [7, 25, 26, 27, 28, 29, 30] (fun _ => [(7, .c (.p 2 0))])
    (fun s => [(0, .cells 24 (c5 c)), (1, .cells tyW (wldE c link m)), (2, .cells tyW (wldE c s.link s.m))]) (fun s => s.z) 3 (by simp only [anyL, st]; exact rfl) ?_ ?_
   ·simp only [seval, go_sem]
    (refine ⟨⟨by omega, by omega, hat⟩, ?_⟩; (try simp only [seval, go_sem]))
    (refine ldF.agg _ rfl (by first | exact .inl hr1 | exact hr1) ?_; (try simp only [seval, go_sem]))
    repeat' (refine And.intro ?_ ?_ <;> (try simp only [seval, go_sem]))
    all_goals refine tT ?_; refine callP (wldstep_i QW stepP_W c link e0 e1 n0 n1 m ev (.slice A1 ev.data.length k1) z3 hP hI.ok hb hed) rfl rfl ?_; rintro u z4 hz4 ⟨f0, f1, g0, g1, m5, lk, hw, rfl, hP5⟩; refine gO ?_
    all_goals refine ⟨⟨0, f0, f1, g0, g1, lk, m5, z4⟩, ⟨hz4, hw, hP5⟩, ?_⟩
    all_goals simp only [wldE]
    all_goals exact lX
   ·rintro ⟨_, f0, f1, g0, g1, lk, m5, z4⟩ ⟨hz4, hw, hP5⟩
    dsimp only at *
    simp only [wldE]
    have hI5 := step_W (g := false) hI ev
    rw [hw] at hI5
    have hP4 := hP.mono hz4
    refine gO ?_
    (refine ⟨⟨by omega, by omega, hat⟩, ?_⟩; (try simp only [seval, go_sem]))
    (refine ldF.one _ (by first | exact .inl ((hr1.mono hz4).cell 1 rfl) | exact ((hr1.mono hz4).cell 1 rfl)) ?_; (try simp only [seval, go_sem]))
    refine gO ?_
    rcases hed.2.1 with hwho | hwho
    ·have hoth : f1 = e1 := by
      have := step_other (g := false) hI.ok ev (i := 1) (by rw [hwho]; decide)
      rw [hw] at this
      exact this
     subst hoth
     have w9 : IntKind.i64.wrap 1 = 1 := wrap_in (by omega) (by omega)
     simp only [hwho]
     refine gO ?_
     repeat (simp only [seval, go_sem, w9]; refine gO ?_)
     ((first | refine ⟨⟨by omega, hP5.atE⟩, ?_⟩ | refine ⟨hP5.atE, ?_⟩); (try simp only [seval, go_sem]))
     (refine ldF.agg _ rfl (by first | exact .inl hP5.all1 | exact hP5.all1) ?_; (try simp only [seval, go_sem]))
     repeat (simp only [seval, go_sem, w9]; refine gO ?_)
     ((first | refine ⟨⟨by omega, hP.atE⟩, ?_⟩ | refine ⟨hP.atE, ?_⟩); (try simp only [seval, go_sem]))
     (refine ldF.agg _ rfl (by first | exact .inl hP4.all1 | exact hP4.all1) ?_; (try simp only [seval, go_sem]))
     refine tT ?_; refine callP (liend c f1 m5.m1 m.m1 z4 hP5.e1 hP4.e1 (hI.ok.ends 1 (by omega))) rfl rfl ?_; rintro _ _ - ⟨rfl, rfl⟩; refine gO ?_
     refine gO ?_
     refine ⟨⟨i + 1, f0, f1, g0, g1, lk, m5, z4⟩, ⟨Zc.trans' hz3 hz4, by dsimp only; omega, hP5, hI5⟩, by dsimp only; omega, ?_⟩
     exact lX
    ·have hoth : f0 = e0 := by
      have := step_other (g := false) hI.ok ev (i := 0) (by rw [hwho]; decide)
      rw [hw] at this
      exact this
     subst hoth
     have w9 : IntKind.i64.wrap 0 = 0 := wrap_in (by omega) (by omega)
     simp only [hwho]
     refine gO ?_
     repeat (simp only [seval, go_sem, w9]; refine gO ?_)
     ((first | refine ⟨⟨by omega, hP5.atE⟩, ?_⟩ | refine ⟨hP5.atE, ?_⟩); (try simp only [seval, go_sem]))
     (refine ldF.agg _ rfl (by first | exact .inl hP5.all0 | exact hP5.all0) ?_; (try simp only [seval, go_sem]))
     repeat (simp only [seval, go_sem, w9]; refine gO ?_)
     ((first | refine ⟨⟨by omega, hP.atE⟩, ?_⟩ | refine ⟨hP.atE, ?_⟩); (try simp only [seval, go_sem]))
     (refine ldF.agg _ rfl (by first | exact .inl hP4.all0 | exact hP4.all0) ?_; (try simp only [seval, go_sem]))
     refine tT ?_; refine callP (liend c f0 m5.m0 m.m0 z4 hP5.e0 hP4.e0 (hI.ok.ends 0 (by omega))) rfl rfl ?_; rintro _ _ - ⟨rfl, rfl⟩; refine gO ?_
     refine gO ?_
     refine ⟨⟨i + 1, f0, f1, g0, g1, lk, m5, z4⟩, ⟨Zc.trans' hz3 hz4, by dsimp only; omega, hP5, hI5⟩, by dsimp only; omega, ?_⟩
     exact lX
  ·refine gO ?_
   refine tT ?_; refine callP (wldok_i c link e0 e1 n0 n1 m z3 hP hI.ok) rfl rfl ?_; rintro u z5 hz5 rfl; refine gO ?_
   refine gO ?_
   refine tT ?_; refine callP (liok z5) rfl rfl ?_; rintro _ _ - ⟨rfl, rfl⟩; refine gO ?_
   (first|refine fN ?_|exact fZ)
end Go.Proofs.YtllafcmkppmdgaaGreat
