/- Who takes nothing sends nothing: the law's walk. -/
import Derived.Test.YtpblmlaahapohaaGreatB22
namespace Go.Proofs.YtpblmlaahapohaaGreat
open Go.RowKit
set_option linter.unusedVariables false
set_option linter.unusedSimpArgs false
set_option maxRecDepth 100000
set_option maxHeartbeats 8000000
theorem numQuiet_law (code : List Int) (v : Value) (z : Zc) (h : By z code v) : PSpec Tryz.prog 7 [v] z fun u z' => u = .bool true := by
  obtain ⟨A0, c0, rfl, hc0, hB0, hr0⟩ := h.form
  (refine pspec_enter Tryz.func7 ic7_ok fr7_ok Tryz.ntmps7 ?_; simp only [seval, go_sem, ic7, fr7])
  refine gO ?_
  (with_reducible refine condI.split (fun hg => ?_) (fun hg => ?_) <;> (try simp only [hg]) <;> (try simp only [seval, go_sem]))
  · (first|refine fN ?_|exact fZ)
  have hlen : code.length ≤ 1048576 := by have := of_decide_eq_false hg; omega
  refine gO ?_
  refine tT ?_; refine callP (drawPlay_s code _ z h (by omega)) rfl rfl ?_; rintro u z1 hz1 ⟨c, evs, B, kB, rfl, hE, hc, hm, hev, hel⟩; refine gO ?_
  refine tT ?_; refine callP (wldnew_i c z1 hc) rfl rfl ?_; rintro u z2 hz2 ⟨e0, e1, n0, n1, m, link, hw0, rfl, hP⟩; refine gO ?_
  have hI0 := wldNew_N hc hm
  rw [hw0] at hI0
  have hp0 : e0.put = [] ∧ e1.put = [] := by
    have e := hw0
    unfold wldNew at e
    rw [if_pos (cfgOk_iff.2 hc)] at e
    injection e with _ e _ _
    injection e with h1 e
    injection e with h2 _
    subst h1; subst h2
    exact ⟨rfl, rfl⟩
  obtain ⟨cs, hEe, hEr⟩ := Els.one1 hE
  refine loop_upd (ι := RunS) (n := 2) (fun s => LawI z2 c evs.length s ∧ s.e0.put = [] ∧ s.e1.put = []) (fun s => [(6, .c (.v (.int .i64 s.i)))]) (fun s => [(0, .cells 24 (c5 c)), (1, .cells tyW (wldE c s.link s.m))]) (fun s => s.z) (fun s => evs.length - s.i) ⟨0, e0, e1, n0, n1, link, m, z2⟩ ⟨⟨Zc.rfl' _, by simp, hP, hI0⟩, hp0⟩ (by (simp only [wrI, wrR, anyL, st, List.append_nil, List.nil_append, List.cons_append]); exact rfl) ?_ ?_
  · simp only [wldE]
    exact lX
  · rintro ⟨i, e0, e1, n0, n1, link, m, z3⟩ ⟨⟨hz3, hi, hP, hI⟩, hp0, hp1⟩
    dsimp only at *
    simp only [wldE]
    refine gO ?_
    (with_reducible refine condI.split (fun hg => ?_) (fun hg => ?_) <;> (try simp only [hg]) <;> (try simp only [seval, go_sem]))
    · have hi' : i < evs.length := by have := of_decide_eq_true hg; omega
      obtain ⟨ev, hx⟩ : ∃ x, evs[i]? = some x := ⟨_, List.getElem?_eq_getElem hi'⟩
      have hed := hev ev (List.mem_of_getElem? hx)
      have hz13 := Zc.trans' hz2 hz3
      obtain ⟨c1, ⟨v, rfl, hb⟩, hr1⟩ := (hEe.mono hz13).at (hEr.mono hz13) hx
      obtain ⟨A1, k1, rfl, hk1, hB1, hrb⟩ := By.form hb
      have hat : IsAt B := hEe.isAt hEr (by decide) hi'
      refine gO ?_
      (refine ⟨⟨by omega, by omega, hat⟩, ?_⟩; (try simp only [seval, go_sem]))
      (refine ldF.one _ (by first | exact .inl (hr1.cell 0 rfl) | exact (hr1.cell 0 rfl)) ?_; (try simp only [seval, go_sem]))
      by_cases hk1 : ev.kind = 1
      · have q1 : (ev.kind == 1) = true := by simp [hk1]
        repeat (simp only [seval, go_sem, q1]; refine gO ?_)
        refine ⟨⟨i + 1, e0, e1, n0, n1, link, m, z3⟩, ⟨⟨hz3, by dsimp only; omega, hP, hI⟩, hp0, hp1⟩, by dsimp only; omega, ?_⟩
        exact lX
      · have q1 : (ev.kind == 1) = false := by simp [hk1]
        repeat (simp only [seval, go_sem, q1]; refine gO ?_)
        (refine ⟨⟨by omega, by omega, hat⟩, ?_⟩; (try simp only [seval, go_sem]))
        (refine ldF.agg _ rfl (by first | exact .inl hr1 | exact hr1) ?_; (try simp only [seval, go_sem]))
        refine gO ?_
        refine tT ?_; refine callP (wldstep_i QN stepP_N c link e0 e1 n0 n1 m ev (.slice A1 ev.data.length k1) z3 hP hI.ok hb (hI.stepOk hed)) rfl rfl ?_; rintro u z4 hz4 ⟨f0, f1, g0, g1, m5, lk, hw, rfl, hP5⟩; refine gO ?_
        have hI5 := step_N (g := false) hI ev hB1 (by omega)
        have hq0 := step_put_same (g := false) hI ev hk1 (i := 0) (by omega)
        have hq1 := step_put_same (g := false) hI ev hk1 (i := 1) (by omega)
        rw [hw] at hI5 hq0 hq1
        have hq0 : f0.put = [] := hq0.trans hp0
        have hq1 : f1.put = [] := hq1.trans hp1
        have hp5 : ∀ i, i < 2 → (endAt ⟨c, [f0, f1], [g0, g1], lk⟩ i).put = [] := fun i hi => by
          rcases two_cases hi with rfl | rfl
          · exact hq0
          · exact hq1
        refine gO ?_
        refine loop_upd (ι := Nat × Zc) (n := 2) (fun s => z4 ≤ s.2 ∧ s.1 ≤ 2) (fun s => [(7, .c (.v (.int .i64 s.1)))]) (fun _ => [(0, .cells 24 (c5 c)), (1, .cells tyW (wldE c lk m5))]) (fun s => s.2) (fun s => 2 - s.1) ⟨0, z4⟩ ⟨Zc.rfl' _, by simp⟩ (by (simp only [wrI, wrR, anyL, st, List.append_nil, List.nil_append, List.cons_append]); exact rfl) ?_ ?_
        · simp only [wldE]
          exact lX
        · rintro ⟨k, y⟩ ⟨hy, hk⟩
          dsimp only at *
          simp only [wldE]
          have hk3 : k = 0 ∨ k = 1 ∨ k = 2 := by omega
          rcases hk3 with rfl | rfl | rfl
          · refine gO ?_
            refine loop_upd (ι := Nat × Zc) (n := 2) (fun s => z4 ≤ s.2 ∧ s.1 ≤ g0.length) (fun s => [(8, .c (.v (.int .i64 s.1)))]) (fun _ => [(0, .cells 24 (c5 c)), (1, .cells tyW (wldE c lk m5))]) (fun s => s.2) (fun s => g0.length - s.1) ⟨0, y⟩ ⟨hy, by simp⟩ (by (simp only [wrI, wrR, anyL, st, List.append_nil, List.nil_append, List.cons_append]); exact rfl) ?_ ?_
            · simp only [wldE]
              exact lX
            · rintro ⟨j, y2⟩ ⟨hy2, hj⟩
              dsimp only at *
              simp only [wldE]
              refine gO ?_
              ((first | refine ⟨⟨by omega, hP5.atN⟩, ?_⟩ | refine ⟨hP5.atN, ?_⟩); (try simp only [seval, go_sem]))
              (refine ldF.one _ (by first | exact .inl ((hP5.N.mono hy2).cell 0 rfl) | exact ((hP5.N.mono hy2).cell 0 rfl)) ?_; (try simp only [seval, go_sem]))
              refine gO ?_
              (with_reducible refine condI.split (fun hg => ?_) (fun hg => ?_) <;> (try simp only [hg]) <;> (try simp only [seval, go_sem]))
              · have hj' : j < g0.length := by have := of_decide_eq_true hg; omega
                obtain ⟨x, hxm⟩ : ∃ x, g0[j]? = some x := ⟨_, List.getElem?_eq_getElem hj'⟩
                obtain ⟨csm, hem, hrm⟩ := Els.one1 hP5.n0
                obtain ⟨cm, ⟨vm, rfl, hbm⟩, hrx⟩ := (hem.mono hy2).at (hrm.mono hy2) hxm
                have hatm := hem.isAt hrm (by decide) hj'
                have h30 : g0.length ≤ 30 := (hI5.ok.net 0 (by omega)).1
                have h15 := (hI5.ok.net 0 (by omega)).2 x (List.mem_of_getElem? hxm)
                have hfr := frmRead_i x.bytes vm y2 hbm (by omega)
                have hqu := (hI5.quiet hp5 (i := 0) (by omega)).1 x (List.mem_of_getElem? hxm)
                refine gO ?_
                ((first | refine ⟨⟨by omega, hP5.atN⟩, ?_⟩ | refine ⟨hP5.atN, ?_⟩); (try simp only [seval, go_sem]))
                (refine ldF.one _ (by first | exact .inl ((hP5.N.mono hy2).cell 0 rfl) | exact ((hP5.N.mono hy2).cell 0 rfl)) ?_; (try simp only [seval, go_sem]))
                (refine ⟨⟨by omega, by omega, hatm⟩, ?_⟩; (try simp only [seval, go_sem]))
                (refine ldF.one _ (by first | exact .inl (hrx.cell 1 rfl) | exact (hrx.cell 1 rfl)) ?_; (try simp only [seval, go_sem]))
                cases hf : frmRead x.bytes with
                | none =>
                  simp only [hf] at hfr
                  refine tT ?_; refine callP (hfr) rfl rfl ?_; rintro u y3 hy3 rfl; refine gO ?_
                  refine gO ?_
                  refine ⟨⟨j + 1, y3⟩, ⟨Zc.trans' hy2 hy3, by dsimp only; omega⟩, by dsimp only; omega, ?_⟩
                  exact lX
                | some f =>
                  simp only [hf] at hfr
                  have hk1 : (f.kind == 1) = false := by have := hqu f hf; simpa using this
                  refine tT ?_; refine callP (hfr) rfl rfl ?_; rintro u y3 hy3 ⟨w, rfl, hw9⟩; refine gO ?_; (try simp only [seval, go_sem])
                  obtain ⟨A9, k9, rfl, _, _, _⟩ := hw9.form
                  refine gO ?_
                  repeat (simp only [seval, go_sem, hk1]; refine gO ?_)
                  refine ⟨⟨j + 1, y3⟩, ⟨Zc.trans' hy2 hy3, by dsimp only; omega⟩, by dsimp only; omega, ?_⟩
                  exact lX
              · have hl0 : f0.got.length = 0 := by have := (hI5.quiet hp5 (i := 0) (by omega)).2.1; exact congrArg List.length this
                have hc0 : f0.rx.count = 0 := (hI5.quiet hp5 (i := 0) (by omega)).2.2
                refine gO ?_
                ((first | refine ⟨⟨by omega, hP5.atE⟩, ?_⟩ | refine ⟨hP5.atE, ?_⟩); (try simp only [seval, go_sem]))
                (refine ldF.one _ (by first | exact .inl ((hP5.E.mono hy2).cell 27 rfl) | exact ((hP5.E.mono hy2).cell 27 rfl)) ?_; (try simp only [seval, go_sem]))
                repeat (simp only [seval, go_sem, hl0]; refine gO ?_)
                ((first | refine ⟨⟨by omega, hP5.atE⟩, ?_⟩ | refine ⟨hP5.atE, ?_⟩); (try simp only [seval, go_sem]))
                (refine ldF.one _ (by first | exact .inl ((hP5.E.mono hy2).cell 11 rfl) | exact ((hP5.E.mono hy2).cell 11 rfl)) ?_; (try simp only [seval, go_sem]))
                repeat (simp only [seval, go_sem, hc0]; refine gO ?_)
                refine ⟨⟨1, y2⟩, ⟨hy2, by dsimp only; omega⟩, by dsimp only; omega, ?_⟩
                exact lX
          · refine gO ?_
            refine loop_upd (ι := Nat × Zc) (n := 2) (fun s => z4 ≤ s.2 ∧ s.1 ≤ g1.length) (fun s => [(8, .c (.v (.int .i64 s.1)))]) (fun _ => [(0, .cells 24 (c5 c)), (1, .cells tyW (wldE c lk m5))]) (fun s => s.2) (fun s => g1.length - s.1) ⟨0, y⟩ ⟨hy, by simp⟩ (by (simp only [wrI, wrR, anyL, st, List.append_nil, List.nil_append, List.cons_append]); exact rfl) ?_ ?_
            · simp only [wldE]
              exact lX
            · rintro ⟨j, y2⟩ ⟨hy2, hj⟩
              dsimp only at *
              simp only [wldE]
              refine gO ?_
              ((first | refine ⟨⟨by omega, hP5.atN⟩, ?_⟩ | refine ⟨hP5.atN, ?_⟩); (try simp only [seval, go_sem]))
              (refine ldF.one _ (by first | exact .inl ((hP5.N.mono hy2).cell 1 rfl) | exact ((hP5.N.mono hy2).cell 1 rfl)) ?_; (try simp only [seval, go_sem]))
              refine gO ?_
              (with_reducible refine condI.split (fun hg => ?_) (fun hg => ?_) <;> (try simp only [hg]) <;> (try simp only [seval, go_sem]))
              · have hj' : j < g1.length := by have := of_decide_eq_true hg; omega
                obtain ⟨x, hxm⟩ : ∃ x, g1[j]? = some x := ⟨_, List.getElem?_eq_getElem hj'⟩
                obtain ⟨csm, hem, hrm⟩ := Els.one1 hP5.n1
                obtain ⟨cm, ⟨vm, rfl, hbm⟩, hrx⟩ := (hem.mono hy2).at (hrm.mono hy2) hxm
                have hatm := hem.isAt hrm (by decide) hj'
                have h30 : g1.length ≤ 30 := (hI5.ok.net 1 (by omega)).1
                have h15 := (hI5.ok.net 1 (by omega)).2 x (List.mem_of_getElem? hxm)
                have hfr := frmRead_i x.bytes vm y2 hbm (by omega)
                have hqu := (hI5.quiet hp5 (i := 1) (by omega)).1 x (List.mem_of_getElem? hxm)
                refine gO ?_
                ((first | refine ⟨⟨by omega, hP5.atN⟩, ?_⟩ | refine ⟨hP5.atN, ?_⟩); (try simp only [seval, go_sem]))
                (refine ldF.one _ (by first | exact .inl ((hP5.N.mono hy2).cell 1 rfl) | exact ((hP5.N.mono hy2).cell 1 rfl)) ?_; (try simp only [seval, go_sem]))
                (refine ⟨⟨by omega, by omega, hatm⟩, ?_⟩; (try simp only [seval, go_sem]))
                (refine ldF.one _ (by first | exact .inl (hrx.cell 1 rfl) | exact (hrx.cell 1 rfl)) ?_; (try simp only [seval, go_sem]))
                cases hf : frmRead x.bytes with
                | none =>
                  simp only [hf] at hfr
                  refine tT ?_; refine callP (hfr) rfl rfl ?_; rintro u y3 hy3 rfl; refine gO ?_
                  refine gO ?_
                  refine ⟨⟨j + 1, y3⟩, ⟨Zc.trans' hy2 hy3, by dsimp only; omega⟩, by dsimp only; omega, ?_⟩
                  exact lX
                | some f =>
                  simp only [hf] at hfr
                  have hk1 : (f.kind == 1) = false := by have := hqu f hf; simpa using this
                  refine tT ?_; refine callP (hfr) rfl rfl ?_; rintro u y3 hy3 ⟨w, rfl, hw9⟩; refine gO ?_; (try simp only [seval, go_sem])
                  obtain ⟨A9, k9, rfl, _, _, _⟩ := hw9.form
                  refine gO ?_
                  repeat (simp only [seval, go_sem, hk1]; refine gO ?_)
                  refine ⟨⟨j + 1, y3⟩, ⟨Zc.trans' hy2 hy3, by dsimp only; omega⟩, by dsimp only; omega, ?_⟩
                  exact lX
              · have hl0 : f1.got.length = 0 := by have := (hI5.quiet hp5 (i := 1) (by omega)).2.1; exact congrArg List.length this
                have hc0 : f1.rx.count = 0 := (hI5.quiet hp5 (i := 1) (by omega)).2.2
                refine gO ?_
                ((first | refine ⟨⟨by omega, hP5.atE⟩, ?_⟩ | refine ⟨hP5.atE, ?_⟩); (try simp only [seval, go_sem]))
                (refine ldF.one _ (by first | exact .inl ((hP5.E.mono hy2).cell 55 rfl) | exact ((hP5.E.mono hy2).cell 55 rfl)) ?_; (try simp only [seval, go_sem]))
                repeat (simp only [seval, go_sem, hl0]; refine gO ?_)
                ((first | refine ⟨⟨by omega, hP5.atE⟩, ?_⟩ | refine ⟨hP5.atE, ?_⟩); (try simp only [seval, go_sem]))
                (refine ldF.one _ (by first | exact .inl ((hP5.E.mono hy2).cell 39 rfl) | exact ((hP5.E.mono hy2).cell 39 rfl)) ?_; (try simp only [seval, go_sem]))
                repeat (simp only [seval, go_sem, hc0]; refine gO ?_)
                refine ⟨⟨2, y2⟩, ⟨hy2, by dsimp only; omega⟩, by dsimp only; omega, ?_⟩
                exact lX
          · refine gO ?_
            refine ⟨⟨i + 1, f0, f1, g0, g1, lk, m5, y⟩, ⟨⟨Zc.trans' hz3 (Zc.trans' hz4 hy), by dsimp only; omega, hP5.mono hy, hI5⟩, hq0, hq1⟩, by dsimp only; omega, ?_⟩
            exact lX
    · refine gO ?_
      refine tT ?_; refine callP (wldok_i c link e0 e1 n0 n1 m z3 hP hI.ok) rfl rfl ?_; rintro u z5 hz5 rfl; refine gO ?_
      refine gO ?_
      refine tT ?_; refine callP (liok z5) rfl rfl ?_; rintro _ _ - ⟨rfl, rfl⟩; refine gO ?_
      (first|refine fN ?_|exact fZ)
end Go.Proofs.YtpblmlaahapohaaGreat
