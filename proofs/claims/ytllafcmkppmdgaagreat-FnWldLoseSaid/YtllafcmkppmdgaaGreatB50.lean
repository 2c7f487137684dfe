/- What is lost was there: the law's walk. -/
import Derived.Test.YtllafcmkppmdgaaGreatB22
import Derived.Test.YtllafcmkppmdgaaGreatB49
import Derived.Test.YtllafcmkppmdgaaGreatB26
import Derived.Test.YtllafcmkppmdgaaGreatB27
namespace Go.Proofs.YtllafcmkppmdgaaGreat
open Go.RowKit
set_option linter.unusedVariables false
set_option linter.unusedSimpArgs false
set_option maxRecDepth 100000
set_option maxHeartbeats 8000000
theorem wldLose_law (code : List Int) (v : Value) (z : Zc) (h : By z code v) : PSpec Tryz.prog 11 [v] z fun u z' => u = .bool true := by
 obtain ⟨A0, c0, rfl, hc0, hB0, hr0⟩ := h.form
 refine eP k11 ?_
 refine gO ?_
 (with_reducible refine condI.split (fun hg => ?_) (fun hg => ?_) <;> (try simp only [hg]) <;> (try simp only [seval, go_sem]))
 ·(first|refine fN ?_|exact fZ)
 have hlen : code.length ≤ 1048576 := by have := of_decide_eq_false hg; omega
 refine gO ?_
 refine tT ?_; refine callP (drawWild_s code _ z h (by omega)) rfl rfl ?_; rintro u z1 hz1 ⟨c, evs, B, kB, rfl, hE, hc, hev, hel⟩; refine gO ?_
 refine tT ?_; refine callP (liplay_i QW stepP_W c evs B kB z1 hc hE (by omega) (fun i ev hx => hev ev (List.mem_of_getElem? hx))) rfl rfl ?_; rintro u z2 hz2 ⟨e0, e1, n0, n1, m, link, hw, rfl, hP⟩; refine gO ?_
 have hI := run_W (g := false) (wldNew_W hc) evs
 rw [hw] at hI
 refine tT ?_; refine callP (wldok_i c link e0 e1 n0 n1 m z2 hP hI.ok) rfl rfl ?_; rintro u z3 hz3 rfl; refine gO ?_
 have hP3 := hP.mono hz3
 refine gO ?_
 refine loop_upd (ι := Nat × Zc) (n := 2) (fun s => z3 ≤ s.2 ∧ s.1 ≤ 2) (fun s => [(6, .c (.v (.int .i64 s.1)))]) (fun _ => [(0, .cells 24 (c5 c)), (1, .cells tyW (wldE c link m))]) (fun s => s.2) (fun s => 2 - s.1) ⟨0, z3⟩ ⟨Zc.rfl' _, by simp⟩ (by (simp only [wrI, wrR, anyL, st, List.append_nil, List.nil_append, List.cons_append]); exact rfl) ?_ ?_
 ·simp only [wldE]
  exact lX
 ·rintro ⟨k, y⟩ ⟨hy, hk⟩
  dsimp only at *
  simp only [wldE]
  have hPy := hP3.mono hy
  have hk3 : k = 0 ∨ k = 1 ∨ k = 2 := by omega
  rcases hk3 with rfl | rfl | rfl
  ·refine gO ?_
   refine tT ?_; refine callP (wldstep_i QW stepP_W c link e0 e1 n0 n1 m ⟨8, 0, 0, 0, []⟩ (.slice none 0 0) y hPy hI.ok (Sl.nil _ _ _) ⟨by simp, by simp, by simp⟩) rfl rfl ?_; rintro u z4 hz4 ⟨f0, f1, g0, g1, m5, lk, hw4, rfl, hP5⟩; refine gO ?_
   obtain ⟨rfl, rfl, rfl, rfl, rfl⟩ := wld_inj ((show step false ⟨c, [e0, e1], [n0, n1], link⟩ ⟨8, 0, 0, 0, []⟩ = ⟨c, [e0, e1], [n0.drop 1, n1], link⟩ from rfl).symm.trans hw4)
   have hP4 := hPy.mono hz4
   have j0 : NetI n0 := hI.ok.net 0 (by omega)
   have j1 : NetI n1 := hI.ok.net 1 (by omega)
   refine gO ?_
   ((first | refine ⟨⟨by omega, hP4.atN⟩, ?_⟩ | refine ⟨hP4.atN, ?_⟩); (try simp only [seval, go_sem]))
   (refine ldF.one _ (by first | exact .inl (hP4.N.cell 0 rfl) | exact (hP4.N.cell 0 rfl)) ?_; (try simp only [seval, go_sem]))
   rcases nil_or n0 with hn | ⟨a, l, hn⟩
   ·subst hn
    refine gO ?_
    refine tT ?_; refine callP (liworld c link e0 e1 _ _ m5 m z4 hP5 hP4 hI.ok) rfl rfl ?_; rintro _ _ - ⟨rfl, rfl⟩; refine gO ?_
    refine gO ?_
    refine ⟨⟨1, z4⟩, ⟨Zc.trans' hy hz4, by dsimp only; omega⟩, by dsimp only; omega, ?_⟩
    exact lX
   ·have hl1 : 1 ≤ n0.length := by rw [hn]; simp
    have d1 : ((n0.length : Int) == 0) = false := by rw [beq_eq_false_iff_ne]; omega
    have w9 : IntKind.i64.wrap 1 = 1 := wrap_in (by omega) (by omega)
    repeat (simp only [seval, go_sem, d1, w9]; refine gO ?_)
    ((first | refine ⟨⟨by omega, hP5.atN⟩, ?_⟩ | refine ⟨hP5.atN, ?_⟩); (try simp only [seval, go_sem]))
    (refine ldF.one _ (by first | exact .inl (hP5.N.cell 0 rfl) | exact (hP5.N.cell 0 rfl)) ?_; (try simp only [seval, go_sem]))
    ((first | refine ⟨⟨by omega, hP4.atN⟩, ?_⟩ | refine ⟨hP4.atN, ?_⟩); (try simp only [seval, go_sem]))
    (refine ldF.one _ (by first | exact .inl (hP4.N.cell 0 rfl) | exact (hP4.N.cell 0 rfl)) ?_; (try simp only [seval, go_sem]))
    refine ⟨by omega, ?_⟩; refine gO ?_
    have hsl : Sl mRep z4 (n0.drop 1) (.slice (cutA m.n0.A m.n0.C 1 2) (n0.length - 1) (m.n0.C - 1)) := Sl.drop (d := mRep) hP4.n0
    refine tT ?_; refine callP (linet (n0.drop 1) _ _ z4 hP5.n0 hsl (by rw [List.length_drop]; have := j0.1; omega) (fun x hx => by have := j0.2 x (List.mem_of_mem_drop hx); omega)) rfl rfl ?_; rintro _ _ - ⟨rfl, rfl⟩; refine gO ?_
    repeat (simp only [seval, go_sem, w9]; refine gO ?_)
    ((first | refine ⟨⟨by omega, hP5.atN⟩, ?_⟩ | refine ⟨hP5.atN, ?_⟩); (try simp only [seval, go_sem]))
    (refine ldF.one _ (by first | exact .inl (hP5.N.cell 1 rfl) | exact (hP5.N.cell 1 rfl)) ?_; (try simp only [seval, go_sem]))
    repeat (simp only [seval, go_sem, w9]; refine gO ?_)
    ((first | refine ⟨⟨by omega, hP4.atN⟩, ?_⟩ | refine ⟨hP4.atN, ?_⟩); (try simp only [seval, go_sem]))
    (refine ldF.one _ (by first | exact .inl (hP4.N.cell 1 rfl) | exact (hP4.N.cell 1 rfl)) ?_; (try simp only [seval, go_sem]))
    refine tT ?_; refine callP (linet n1 _ _ z4 hP5.n1 hP4.n1 (by have := j1.1; omega) (fun x hx => by have := j1.2 x hx; omega)) rfl rfl ?_; rintro _ _ - ⟨rfl, rfl⟩; refine gO ?_
    ((first | refine ⟨⟨by omega, hP5.atE⟩, ?_⟩ | refine ⟨hP5.atE, ?_⟩); (try simp only [seval, go_sem]))
    (refine ldF.agg _ rfl (by first | exact .inl hP5.all0 | exact hP5.all0) ?_; (try simp only [seval, go_sem]))
    ((first | refine ⟨⟨by omega, hP4.atE⟩, ?_⟩ | refine ⟨hP4.atE, ?_⟩); (try simp only [seval, go_sem]))
    (refine ldF.agg _ rfl (by first | exact .inl hP4.all0 | exact hP4.all0) ?_; (try simp only [seval, go_sem]))
    refine tT ?_; refine callP (liend c e0 m5.m0 m.m0 z4 hP5.e0 hP4.e0 (hI.ok.ends 0 (by omega))) rfl rfl ?_; rintro _ _ - ⟨rfl, rfl⟩; refine gO ?_
    ((first | refine ⟨⟨by omega, hP5.atE⟩, ?_⟩ | refine ⟨hP5.atE, ?_⟩); (try simp only [seval, go_sem]))
    (refine ldF.agg _ rfl (by first | exact .inl hP5.all1 | exact hP5.all1) ?_; (try simp only [seval, go_sem]))
    ((first | refine ⟨⟨by omega, hP4.atE⟩, ?_⟩ | refine ⟨hP4.atE, ?_⟩); (try simp only [seval, go_sem]))
    (refine ldF.agg _ rfl (by first | exact .inl hP4.all1 | exact hP4.all1) ?_; (try simp only [seval, go_sem]))
    refine tT ?_; refine callP (liend c e1 m5.m1 m.m1 z4 hP5.e1 hP4.e1 (hI.ok.ends 1 (by omega))) rfl rfl ?_; rintro _ _ - ⟨rfl, rfl⟩; refine gO ?_
    refine gO ?_
    refine ⟨⟨1, z4⟩, ⟨Zc.trans' hy hz4, by dsimp only; omega⟩, by dsimp only; omega, ?_⟩
    exact lX
  ·refine gO ?_
   refine tT ?_; refine callP (wldstep_i QW stepP_W c link e0 e1 n0 n1 m ⟨8, 1, 0, 0, []⟩ (.slice none 0 0) y hPy hI.ok (Sl.nil _ _ _) ⟨by simp, by simp, by simp⟩) rfl rfl ?_; rintro u z4 hz4 ⟨f0, f1, g0, g1, m5, lk, hw4, rfl, hP5⟩; refine gO ?_
   obtain ⟨rfl, rfl, rfl, rfl, rfl⟩ := wld_inj ((show step false ⟨c, [e0, e1], [n0, n1], link⟩ ⟨8, 1, 0, 0, []⟩ = ⟨c, [e0, e1], [n0, n1.drop 1], link⟩ from rfl).symm.trans hw4)
   have hP4 := hPy.mono hz4
   have j0 : NetI n1 := hI.ok.net 1 (by omega)
   have j1 : NetI n0 := hI.ok.net 0 (by omega)
   refine gO ?_
   ((first | refine ⟨⟨by omega, hP4.atN⟩, ?_⟩ | refine ⟨hP4.atN, ?_⟩); (try simp only [seval, go_sem]))
   (refine ldF.one _ (by first | exact .inl (hP4.N.cell 1 rfl) | exact (hP4.N.cell 1 rfl)) ?_; (try simp only [seval, go_sem]))
   rcases nil_or n1 with hn | ⟨a, l, hn⟩
   ·subst hn
    refine gO ?_
    refine tT ?_; refine callP (liworld c link e0 e1 _ _ m5 m z4 hP5 hP4 hI.ok) rfl rfl ?_; rintro _ _ - ⟨rfl, rfl⟩; refine gO ?_
    refine gO ?_
    refine ⟨⟨2, z4⟩, ⟨Zc.trans' hy hz4, by dsimp only; omega⟩, by dsimp only; omega, ?_⟩
    exact lX
   ·have hl1 : 1 ≤ n1.length := by rw [hn]; simp
    have d1 : ((n1.length : Int) == 0) = false := by rw [beq_eq_false_iff_ne]; omega
    have w9 : IntKind.i64.wrap 0 = 0 := wrap_in (by omega) (by omega)
    repeat (simp only [seval, go_sem, d1, w9]; refine gO ?_)
    ((first | refine ⟨⟨by omega, hP5.atN⟩, ?_⟩ | refine ⟨hP5.atN, ?_⟩); (try simp only [seval, go_sem]))
    (refine ldF.one _ (by first | exact .inl (hP5.N.cell 1 rfl) | exact (hP5.N.cell 1 rfl)) ?_; (try simp only [seval, go_sem]))
    ((first | refine ⟨⟨by omega, hP4.atN⟩, ?_⟩ | refine ⟨hP4.atN, ?_⟩); (try simp only [seval, go_sem]))
    (refine ldF.one _ (by first | exact .inl (hP4.N.cell 1 rfl) | exact (hP4.N.cell 1 rfl)) ?_; (try simp only [seval, go_sem]))
    refine ⟨by omega, ?_⟩; refine gO ?_
    have hsl : Sl mRep z4 (n1.drop 1) (.slice (cutA m.n1.A m.n1.C 1 2) (n1.length - 1) (m.n1.C - 1)) := Sl.drop (d := mRep) hP4.n1
    refine tT ?_; refine callP (linet (n1.drop 1) _ _ z4 hP5.n1 hsl (by rw [List.length_drop]; have := j0.1; omega) (fun x hx => by have := j0.2 x (List.mem_of_mem_drop hx); omega)) rfl rfl ?_; rintro _ _ - ⟨rfl, rfl⟩; refine gO ?_
    repeat (simp only [seval, go_sem, w9]; refine gO ?_)
    ((first | refine ⟨⟨by omega, hP5.atN⟩, ?_⟩ | refine ⟨hP5.atN, ?_⟩); (try simp only [seval, go_sem]))
    (refine ldF.one _ (by first | exact .inl (hP5.N.cell 0 rfl) | exact (hP5.N.cell 0 rfl)) ?_; (try simp only [seval, go_sem]))
    repeat (simp only [seval, go_sem, w9]; refine gO ?_)
    ((first | refine ⟨⟨by omega, hP4.atN⟩, ?_⟩ | refine ⟨hP4.atN, ?_⟩); (try simp only [seval, go_sem]))
    (refine ldF.one _ (by first | exact .inl (hP4.N.cell 0 rfl) | exact (hP4.N.cell 0 rfl)) ?_; (try simp only [seval, go_sem]))
    refine tT ?_; refine callP (linet n0 _ _ z4 hP5.n0 hP4.n0 (by have := j1.1; omega) (fun x hx => by have := j1.2 x hx; omega)) rfl rfl ?_; rintro _ _ - ⟨rfl, rfl⟩; refine gO ?_
    ((first | refine ⟨⟨by omega, hP5.atE⟩, ?_⟩ | refine ⟨hP5.atE, ?_⟩); (try simp only [seval, go_sem]))
    (refine ldF.agg _ rfl (by first | exact .inl hP5.all0 | exact hP5.all0) ?_; (try simp only [seval, go_sem]))
    ((first | refine ⟨⟨by omega, hP4.atE⟩, ?_⟩ | refine ⟨hP4.atE, ?_⟩); (try simp only [seval, go_sem]))
    (refine ldF.agg _ rfl (by first | exact .inl hP4.all0 | exact hP4.all0) ?_; (try simp only [seval, go_sem]))
    refine tT ?_; refine callP (liend c e0 m5.m0 m.m0 z4 hP5.e0 hP4.e0 (hI.ok.ends 0 (by omega))) rfl rfl ?_; rintro _ _ - ⟨rfl, rfl⟩; refine gO ?_
    ((first | refine ⟨⟨by omega, hP5.atE⟩, ?_⟩ | refine ⟨hP5.atE, ?_⟩); (try simp only [seval, go_sem]))
    (refine ldF.agg _ rfl (by first | exact .inl hP5.all1 | exact hP5.all1) ?_; (try simp only [seval, go_sem]))
    ((first | refine ⟨⟨by omega, hP4.atE⟩, ?_⟩ | refine ⟨hP4.atE, ?_⟩); (try simp only [seval, go_sem]))
    (refine ldF.agg _ rfl (by first | exact .inl hP4.all1 | exact hP4.all1) ?_; (try simp only [seval, go_sem]))
    refine tT ?_; refine callP (liend c e1 m5.m1 m.m1 z4 hP5.e1 hP4.e1 (hI.ok.ends 1 (by omega))) rfl rfl ?_; rintro _ _ - ⟨rfl, rfl⟩; refine gO ?_
    refine gO ?_
    refine ⟨⟨2, z4⟩, ⟨Zc.trans' hy hz4, by dsimp only; omega⟩, by dsimp only; omega, ?_⟩
    exact lX
  ·refine gO ?_
   refine tT ?_; refine callP (liok y) rfl rfl ?_; rintro _ _ - ⟨rfl, rfl⟩; refine gO ?_
   (first|refine fN ?_|exact fZ)
end Go.Proofs.YtllafcmkppmdgaaGreat
