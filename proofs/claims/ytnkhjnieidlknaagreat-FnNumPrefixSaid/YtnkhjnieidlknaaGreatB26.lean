/- What comes is what was taken: the law's walk. -/
import Derived.Test.YtnkhjnieidlknaaGreatB0
import Derived.Test.YtnkhjnieidlknaaGreatB1
import Derived.Test.YtnkhjnieidlknaaGreatB2
import Derived.Test.YtnkhjnieidlknaaGreatB3
import Derived.Test.YtnkhjnieidlknaaGreatB4
import Derived.Test.YtnkhjnieidlknaaGreatB5
import Derived.Test.YtnkhjnieidlknaaGreatB6
import Derived.Test.YtnkhjnieidlknaaGreatB7
import Derived.Test.YtnkhjnieidlknaaGreatB8
import Derived.Test.YtnkhjnieidlknaaGreatB9
import Derived.Test.YtnkhjnieidlknaaGreatB10
import Derived.Test.YtnkhjnieidlknaaGreatB11
import Derived.Test.YtnkhjnieidlknaaGreatB12
import Derived.Test.YtnkhjnieidlknaaGreatB13
import Derived.Test.YtnkhjnieidlknaaGreatB14
import Derived.Test.YtnkhjnieidlknaaGreatB15
import Derived.Test.YtnkhjnieidlknaaGreatB16
import Derived.Test.YtnkhjnieidlknaaGreatB17
import Derived.Test.YtnkhjnieidlknaaGreatB18
import Derived.Test.YtnkhjnieidlknaaGreatB19
import Derived.Test.YtnkhjnieidlknaaGreatB20
import Derived.Test.YtnkhjnieidlknaaGreatB21
import Derived.Test.YtnkhjnieidlknaaGreatB22
import Derived.Test.YtnkhjnieidlknaaGreatB23
import Derived.Test.YtnkhjnieidlknaaGreatB24
import Derived.Test.YtnkhjnieidlknaaGreatB25
namespace Go.Proofs.YtnkhjnieidlknaaGreat
open Go.RowKit
set_option linter.unusedVariables false
set_option linter.unusedSimpArgs false
set_option maxRecDepth 100000
set_option maxHeartbeats 8000000
theorem lifirst (l h : List (List Int)) (v u : Value) (z : Zc) (hv : Sl sduRep z l v) (hu : Sl sduRep z h u) (h1 : l.length ≤ 1000) (h2 : h.length ≤ 1000) (hm : ∀ x ∈ l, x.length ≤ 1000) (hk : ∀ x ∈ h, x.length ≤ 1000) (hp : l.take h.length = h) : PSpec Tryz.prog 17 [v, u] z fun w z' => w = .bool true ∧ z = z' := by
  have hle : h.length ≤ l.length := by have := congrArg List.length hp; rw [List.length_take] at this; omega
  obtain ⟨A, c, cs, rfl, hc, he, hr⟩ := hv
  obtain ⟨A2, c2, cs2, rfl, hc2, he2, hr2⟩ := hu
  have hsl : Sl sduRep z (l.take h.length) (.slice A h.length c) := by
    have := Sl.take (d := sduRep) (z := z) (xs := l) (A := A) (n := l.length) (c := c) ⟨_, _, _, rfl, hc, he, hr⟩ (k := h.length) (c' := c) hle (by omega)
    exact this
  have d1 : decide ((l.length : Int) ≥ (h.length : Int)) = true := decide_eq_true (by omega)
  have hcl := lisdus (l.take h.length) h _ _ z hsl ⟨_, _, _, rfl, hc2, he2, hr2⟩ (by rw [hp]; omega) (by omega) (fun x hx => by have := hm x (List.mem_of_mem_take hx); omega) (fun x hx => by have := hk x hx; omega)
  rw [hp] at hcl
  (refine pspec_enter Tryz.func17 ic17_ok fr17_ok Tryz.ntmps17 ?_; simp only [seval, go_sem, ic17, fr17])
  refine gO ?_
  repeat (simp only [seval, go_sem, d1]; refine gO ?_)
  refine ⟨by omega, ?_⟩; refine gO ?_
  refine tT ?_; refine callP (hcl) rfl rfl ?_; rintro _ _ - ⟨rfl, rfl⟩; refine gO ?_
  try simp only [seval, go_sem, decide_true]
  (first|refine fN ?_|exact fZ)
theorem numPrefix_law (code : List Int) (v : Value) (z : Zc) (h : By z code v) : PSpec Tryz.prog 5 [v] z fun u z' => u = .bool true := by
  obtain ⟨A0, c0, rfl, hc0, hB0, hr0⟩ := h.form
  (refine pspec_enter Tryz.func5 ic5_ok fr5_ok Tryz.ntmps5 ?_; simp only [seval, go_sem, ic5, fr5])
  refine gO ?_
  (with_reducible refine condI.split (fun hg => ?_) (fun hg => ?_) <;> (try simp only [hg]) <;> (try simp only [seval, go_sem]))
  · (first|refine fN ?_|exact fZ)
  have hlen : code.length ≤ 1048576 := by have := of_decide_eq_false hg; omega
  refine gO ?_
  refine tT ?_; refine callP (drawPlay_s code _ z h (by omega)) rfl rfl ?_; rintro u z1 hz1 ⟨c, evs, B, kB, rfl, hE, hc, hm, hev, hel⟩; refine gO ?_
  refine tT ?_; refine callP (wldnew_i c z1 hc) rfl rfl ?_; rintro u z2 hz2 ⟨e0, e1, n0, n1, m, link, hw0, rfl, hP⟩; refine gO ?_
  have hI0 := wldNew_N hc hm
  rw [hw0] at hI0
  obtain ⟨cs, hEe, hEr⟩ := Els.one1 hE
  refine loop_upd (ι := RunS) (n := 2) (LawI z2 c evs.length) (fun s => [(6, .c (.v (.int .i64 s.i)))]) (fun s => [(0, .cells 24 (c5 c)), (1, .cells tyW (wldE c s.link s.m))]) (fun s => s.z) (fun s => evs.length - s.i) ⟨0, e0, e1, n0, n1, link, m, z2⟩ ⟨Zc.rfl' _, by simp, hP, hI0⟩ (by (simp only [wrI, wrR, anyL, st, List.append_nil, List.nil_append, List.cons_append]); exact rfl) ?_ ?_
  · simp only [wldE]
    exact lX
  · rintro ⟨i, e0, e1, n0, n1, link, m, z3⟩ ⟨hz3, hi, hP, hI⟩
    dsimp only at *
    simp only [wldE]
    refine gO ?_
    (with_reducible refine condI.split (fun hg => ?_) (fun hg => ?_) <;> (try simp only [hg]) <;> (try simp only [seval, go_sem]))
    · have hi' : i < evs.length := by have := of_decide_eq_true hg; omega
      obtain ⟨ev, hx⟩ : ∃ x, evs[i]? = some x := ⟨_, List.getElem?_eq_getElem hi'⟩
      have hed := hev ev (List.mem_of_getElem? hx)
      have hz13 := Zc.trans' hz2 hz3
      obtain ⟨c1, ⟨v, rfl, hb⟩, hr1⟩ := (hEe.mono hz13).at (hEr.mono hz13) hx
      obtain ⟨A1, k1, rfl, hk1, hB1, hrb⟩ := By.form hb
      have hat : IsAt B := hEe.isAt hEr (by decide) hi'
      refine gO ?_
      (refine ⟨⟨by omega, by omega, hat⟩, ?_⟩; (try simp only [seval, go_sem]))
      (refine ldF.agg _ rfl (by first | exact .inl hr1 | exact hr1) ?_; (try simp only [seval, go_sem]))
      refine gO ?_
      refine tT ?_; refine callP (wldstep_i QN stepP_N c link e0 e1 n0 n1 m ev (.slice A1 ev.data.length k1) z3 hP hI.ok hb (hI.stepOk hed)) rfl rfl ?_; rintro u z4 hz4 ⟨f0, f1, g0, g1, m5, lk, hw, rfl, hP5⟩; refine gO ?_
      have hI5 := step_N (g := false) hI ev hB1 (by omega)
      rw [hw] at hI5
      refine tT ?_; refine callP (wldok_i c lk f0 f1 g0 g1 m5 z4 hP5 hI5.ok) rfl rfl ?_; rintro u z5 hz5 rfl; refine gO ?_
      have hP6 := hP5.mono hz5
      have hq0 : f0.put.take f1.got.length = f1.got := hI5.pre (i := 0) (by omega)
      have hq1 : f1.put.take f0.got.length = f0.got := hI5.pre (i := 1) (by omega)
      have q0 : EndI c f0 := hI5.ok.ends 0 (by omega)
      have q1 : EndI c f1 := hI5.ok.ends 1 (by omega)
      refine gO ?_
      ((first | refine ⟨⟨by omega, hP5.atE⟩, ?_⟩ | refine ⟨hP5.atE, ?_⟩); (try simp only [seval, go_sem]))
      (refine ldF.one _ (by first | exact .inl (hP5.E.cell 54 rfl) | exact (hP5.E.cell 54 rfl)) ?_; (try simp only [seval, go_sem]))
      ((first | refine ⟨⟨by omega, hP5.atE⟩, ?_⟩ | refine ⟨hP5.atE, ?_⟩); (try simp only [seval, go_sem]))
      (refine ldF.one _ (by first | exact .inl (hP5.E.cell 27 rfl) | exact (hP5.E.cell 27 rfl)) ?_; (try simp only [seval, go_sem]))
      refine tT ?_; refine callP (lifirst f1.put f0.got _ _ z5 hP6.e1.pu hP6.e0.go (by have := q1.put.1; omega) (by have := q0.got.1; omega) (fun x hx => by have := q1.put.2 x hx; omega) (fun x hx => by have := q0.got.2 x hx; omega) hq1) rfl rfl ?_; rintro _ _ - ⟨rfl, rfl⟩; refine gO ?_
      ((first | refine ⟨⟨by omega, hP5.atE⟩, ?_⟩ | refine ⟨hP5.atE, ?_⟩); (try simp only [seval, go_sem]))
      (refine ldF.one _ (by first | exact .inl (hP5.E.cell 26 rfl) | exact (hP5.E.cell 26 rfl)) ?_; (try simp only [seval, go_sem]))
      ((first | refine ⟨⟨by omega, hP5.atE⟩, ?_⟩ | refine ⟨hP5.atE, ?_⟩); (try simp only [seval, go_sem]))
      (refine ldF.one _ (by first | exact .inl (hP5.E.cell 55 rfl) | exact (hP5.E.cell 55 rfl)) ?_; (try simp only [seval, go_sem]))
      refine tT ?_; refine callP (lifirst f0.put f1.got _ _ z5 hP6.e0.pu hP6.e1.go (by have := q0.put.1; omega) (by have := q1.got.1; omega) (fun x hx => by have := q0.put.2 x hx; omega) (fun x hx => by have := q1.got.2 x hx; omega) hq0) rfl rfl ?_; rintro _ _ - ⟨rfl, rfl⟩; refine gO ?_
      refine ⟨⟨i + 1, f0, f1, g0, g1, lk, m5, z5⟩, ⟨Zc.trans' hz3 (Zc.trans' hz4 hz5), by dsimp only; omega, hP6, hI5⟩, by dsimp only; omega, ?_⟩
      exact lX
    · refine gO ?_
      refine tT ?_; refine callP (liok z3) rfl rfl ?_; rintro _ _ - ⟨rfl, rfl⟩; refine gO ?_
      (first|refine fN ?_|exact fZ)
end Go.Proofs.YtnkhjnieidlknaaGreat
