/- Each credit is somewhere: the law's walk. -/
import Derived.Test.YtpblmlaahapohaaGreatD19
namespace Go.Proofs.YtpblmlaahapohaaGreat
open Go.RowKit
set_option linter.unusedVariables false
set_option linter.unusedSimpArgs false
set_option maxRecDepth 100000
set_option maxHeartbeats 8000000
theorem crdWay_law (code : List Int) (v : Value) (z : Zc) (h : By z code v) : PSpec Tryz.prog 4 [v] z fun u z' => u = .bool true := by
  obtain ⟨A0, c0, rfl, hc0, hB0, hr0⟩ := h.form
  (refine pspec_enter Tryz.func4 ic4_ok fr4_ok Tryz.ntmps4 ?_; simp only [seval, go_sem, ic4, fr4])
  refine gO ?_
  (with_reducible refine condI.split (fun hg => ?_) (fun hg => ?_) <;> (try simp only [hg]) <;> (try simp only [seval, go_sem]))
  · (first|refine fN ?_|exact fZ)
  have hlen : code.length ≤ 1048576 := by have := of_decide_eq_false hg; omega
  refine gO ?_
  refine tT ?_; refine callP (drawCredit_s code _ z h (by omega)) rfl rfl ?_; rintro u z1 hz1 ⟨c, evs, B, kB, rfl, hE, hc, hm, hev, hel⟩; refine gO ?_
  refine tT ?_; refine callP (wldnew_i c z1 hc) rfl rfl ?_; rintro u z2 hz2 ⟨e0, e1, n0, n1, m, link, hw0, rfl, hP⟩; refine gO ?_
  have hI0 := wldNew_C hc hm
  rw [hw0] at hI0
  obtain ⟨cs, hEe, hEr⟩ := Els.one1 hE
  refine loop_upd (ι := RunS) (n := 2) (LawJ z2 c evs.length) (fun s => [(6, .c (.v (.int .i64 s.i)))]) (fun s => [(0, .cells 24 (c5 c)), (1, .cells tyW (wldE c s.link s.m))]) (fun s => s.z) (fun s => evs.length - s.i) ⟨0, e0, e1, n0, n1, link, m, z2⟩ ⟨Zc.rfl' _, by simp, hP, hI0⟩ (by (simp only [wrI, wrR, anyL, st, List.append_nil, List.nil_append, List.cons_append]); exact rfl) ?_ ?_
  · simp only [wldE]
    exact lX
  · rintro ⟨i, e0, e1, n0, n1, link, m, z3⟩ ⟨hz3, hi, hP, hI⟩
    dsimp only at *
    simp only [wldE]
    refine gO ?_
    (with_reducible refine condI.split (fun hg => ?_) (fun hg => ?_) <;> (try simp only [hg]) <;> (try simp only [seval, go_sem]))
    · have hi' : i < evs.length := by have := of_decide_eq_true hg; omega
      obtain ⟨ev, hx⟩ : ∃ x, evs[i]? = some x := ⟨_, List.getElem?_eq_getElem hi'⟩
      have hed := hev ev (List.mem_of_getElem? hx)
      have hz13 := Zc.trans' hz2 hz3
      obtain ⟨c1, ⟨v, rfl, hb⟩, hr1⟩ := (hEe.mono hz13).at (hEr.mono hz13) hx
      obtain ⟨A1, k1, rfl, hk1, hB1, hrb⟩ := By.form hb
      have hat : IsAt B := hEe.isAt hEr (by decide) hi'
      refine gO ?_
      (refine ⟨⟨by omega, by omega, hat⟩, ?_⟩; (try simp only [seval, go_sem]))
      (refine ldF.agg _ rfl (by first | exact .inl hr1 | exact hr1) ?_; (try simp only [seval, go_sem]))
      refine gO ?_
      refine tT ?_; refine callP (wldstep_i QC stepP_C c link e0 e1 n0 n1 m ev (.slice A1 ev.data.length k1) z3 hP hI.ok hb (hI.stepOk hed)) rfl rfl ?_; rintro u z4 hz4 ⟨f0, f1, g0, g1, m5, lk, hw, rfl, hP5⟩; refine gO ?_
      have hI5 := step_C (g := false) hI ev hB1 hed.1.2
      rw [hw] at hI5
      refine tT ?_; refine callP (wldok_i c lk f0 f1 g0 g1 m5 z4 hP5 hI5.ok) rfl rfl ?_; rintro u z5 hz5 rfl; refine gO ?_
      have q0 : EndI c f0 := hI5.ok.ends 0 (by omega)
      have q1 : EndI c f1 := hI5.ok.ends 1 (by omega)
      have hd0 := hI5.dir 0 (by omega)
      have hd1 := hI5.dir 1 (by omega)
      change CDir c f0.put f0.ctx f1.crx f1.got (rdN g1) (rdN g0) at hd0
      change CDir c f1.put f1.ctx f0.crx f0.got (rdN g0) (rdN g1) at hd1
      have hP5 := hP5.mono hz5
      refine gO ?_
      refine loop_upd (ι := Nat × Zc) (n := 2) (fun s => z5 ≤ s.2 ∧ s.1 ≤ 2) (fun s => [(7, .c (.v (.int .i64 s.1)))]) (fun _ => [(0, .cells 24 (c5 c)), (1, .cells tyW (wldE c lk m5))]) (fun s => s.2) (fun s => 2 - s.1) ⟨0, z5⟩ ⟨Zc.rfl' _, by simp⟩ (by (simp only [wrI, wrR, anyL, st, List.append_nil, List.nil_append, List.cons_append]); exact rfl) ?_ ?_
      · simp only [wldE]
        exact lX
      · rintro ⟨k, y⟩ ⟨hy, hk⟩
        dsimp only at *
        simp only [wldE]
        have hk3 : k = 0 ∨ k = 1 ∨ k = 2 := by omega
        rcases hk3 with rfl | rfl | rfl
        · refine gO ?_
          try simp only [wr10]
          (refine ⟨⟨by omega, by omega, hP5.atE'⟩, ?_⟩; (try simp only [seval, go_sem]))
          (refine ldF.one _ (by first | exact .inl ((hP5.E.mono hy).cell 45 rfl) | exact ((hP5.E.mono hy).cell 45 rfl)) ?_; (try simp only [seval, go_sem]))
          refine gO ?_
          refine loop_upd (ι := Int × Nat × Zc) (n := 2) (fun s => y ≤ s.2.2 ∧ s.2.1 ≤ g1.length ∧ s.1 = f1.ctx.hav + grs (rdN (g1.take s.2.1)) ∧ (0 ≤ s.1 ∧ s.1 ≤ 300 + 300 * s.2.1)) (fun s => [(9, .c (.v (.int .i64 s.2.1))), (8, .c (.v (.int .i64 s.1)))]) (fun _ => [(0, .cells 24 (c5 c)), (1, .cells tyW (wldE c lk m5))]) (fun s => s.2.2) (fun s => g1.length - s.2.1) ⟨f1.ctx.hav, 0, y⟩ ⟨Zc.rfl' _, by simp, by simp [rdN, grs], by have := q1.ctx.hav; dsimp only; omega⟩ (by (simp only [wrI, wrR, anyL, st, List.append_nil, List.nil_append, List.cons_append]); exact rfl) ?_ ?_
          · simp only [wldE]
            exact lX
          · rintro ⟨n, j, y2⟩ ⟨hy2, hj, hn, hnb⟩
            dsimp only at *
            simp only [wldE]
            refine gO ?_
            try simp only [wr10]
            (refine ⟨⟨by omega, by omega, hP5.atN'⟩, ?_⟩; (try simp only [seval, go_sem]))
            (refine ldF.one _ (by first | exact .inl ((hP5.N.mono (Zc.trans' hy hy2)).cell 1 rfl) | exact ((hP5.N.mono (Zc.trans' hy hy2)).cell 1 rfl)) ?_; (try simp only [seval, go_sem]))
            refine gO ?_
            (with_reducible refine condI.split (fun hg => ?_) (fun hg => ?_) <;> (try simp only [hg]) <;> (try simp only [seval, go_sem]))
            · have hj' : j < g1.length := by have := of_decide_eq_true hg; omega
              obtain ⟨x, hxm⟩ : ∃ x, g1[j]? = some x := ⟨_, List.getElem?_eq_getElem hj'⟩
              have hyz := Zc.trans' hy hy2
              obtain ⟨csm, hem, hrm⟩ := Els.one1 hP5.n1
              obtain ⟨cm, ⟨vm, rfl, hbm⟩, hrx⟩ := (hem.mono hyz).at (hrm.mono hyz) hxm
              have hatm := hem.isAt hrm (by decide) hj'
              have h30 : g1.length ≤ 30 := (hI5.ok.net 1 (by omega)).1
              have h15 := (hI5.ok.net 1 (by omega)).2 x (List.mem_of_getElem? hxm)
              obtain ⟨f, hf, hfok, hfk, hfb⟩ := (hI5.msg 1 (by omega) x (List.mem_of_getElem? hxm)).read
              have hfbd := frmOk_bound hfok
              have hfr := frmRead_i x.bytes vm y2 hbm (by omega)
              have htk := rdN_take hxm hf
              refine gO ?_
              try simp only [wr10]
              (refine ⟨⟨by omega, by omega, hP5.atN'⟩, ?_⟩; (try simp only [seval, go_sem]))
              (refine ldF.one _ (by first | exact .inl ((hP5.N.mono hyz).cell 1 rfl) | exact ((hP5.N.mono hyz).cell 1 rfl)) ?_; (try simp only [seval, go_sem]))
              (refine ⟨⟨by omega, by omega, hatm⟩, ?_⟩; (try simp only [seval, go_sem]))
              (refine ldF.one _ (by first | exact .inl (hrx.cell 1 rfl) | exact (hrx.cell 1 rfl)) ?_; (try simp only [seval, go_sem]))
              simp only [hf] at hfr
              refine tT ?_; refine callP (hfr) rfl rfl ?_; rintro u y3 hy3 ⟨w, rfl, hw9⟩; refine gO ?_; (try simp only [seval, go_sem])
              obtain ⟨A9, k9, rfl, _, _, _⟩ := hw9.form
              refine gO ?_
              by_cases hk4 : f.kind = 4
              · have q9 : (f.kind == 4) = true := by simp [hk4]
                have w9 : IntKind.i64.wrap (n + f.len) = n + f.len := wrap_in (by omega) (by omega)
                repeat (simp only [seval, go_sem, q9]; refine gO ?_)
                try simp only [w9]
                refine ⟨⟨n + f.len, j + 1, y3⟩, ⟨Zc.trans' hy2 hy3, by dsimp only; omega, ?_, by dsimp only; omega⟩, by dsimp only; omega, ?_⟩
                · dsimp only
                  rw [htk, grs_snoc, if_pos hk4, hn]
                  omega
                · exact lX
              · have q9 : (f.kind == 4) = false := by simp [hk4]
                repeat (simp only [seval, go_sem, q9]; refine gO ?_)
                refine ⟨⟨n, j + 1, y3⟩, ⟨Zc.trans' hy2 hy3, by dsimp only; omega, ?_, by dsimp only; omega⟩, by dsimp only; omega, ?_⟩
                · dsimp only
                  rw [htk, grs_snoc, if_neg hk4, hn]
                  omega
                · exact lX
            · have hje : j = g1.length := by have := of_decide_eq_false hg; omega
              subst hje
              rw [List.take_length] at hn
              have hn1 := hn
              have hyy1 := Zc.trans' hy hy2
              have hnb1 : 0 ≤ n ∧ n ≤ 20000 := by have h30 : g1.length ≤ 30 := (hI5.ok.net 1 (by omega)).1; omega
              refine gO ?_
              refine loop_upd (ι := Int × Nat × Zc) (n := 2) (fun s => y2 ≤ s.2.2 ∧ s.2.1 ≤ g0.length ∧ s.1 = f1.ctx.hav + grs (rdN g1) + ((pcs (rdN (g0.take s.2.1))).length : Int) ∧ (0 ≤ s.1 ∧ s.1 ≤ 20000 + 300 * s.2.1)) (fun s => [(12, .c (.v (.int .i64 s.2.1))), (8, .c (.v (.int .i64 s.1)))]) (fun _ => [(0, .cells 24 (c5 c)), (1, .cells tyW (wldE c lk m5))]) (fun s => s.2.2) (fun s => g0.length - s.2.1) ⟨n, 0, y2⟩ ⟨Zc.rfl' _, by simp, by dsimp only; rw [hn1]; simp [rdN, pcs], by dsimp only; omega⟩ (by (simp only [wrI, wrR, anyL, st, List.append_nil, List.nil_append, List.cons_append]); exact rfl) ?_ ?_
              · simp only [wldE]
                exact lX
              · rintro ⟨p, j, x2⟩ ⟨hx2, hj2, hp, hpb⟩
                dsimp only at *
                simp only [wldE]
                refine gO ?_
                try simp only [wr10]
                ((first | refine ⟨⟨by omega, hP5.atN'⟩, ?_⟩ | refine ⟨hP5.atN', ?_⟩); (try simp only [seval, go_sem]))
                (refine ldF.one _ (by first | exact .inl ((hP5.N.mono (Zc.trans' hyy1 hx2)).cell 0 rfl) | exact ((hP5.N.mono (Zc.trans' hyy1 hx2)).cell 0 rfl)) ?_; (try simp only [seval, go_sem]))
                refine gO ?_
                (with_reducible refine condI.split (fun hg => ?_) (fun hg => ?_) <;> (try simp only [hg]) <;> (try simp only [seval, go_sem]))
                · have hj' : j < g0.length := by have := of_decide_eq_true hg; omega
                  obtain ⟨x, hxm⟩ : ∃ x, g0[j]? = some x := ⟨_, List.getElem?_eq_getElem hj'⟩
                  have hyz := Zc.trans' hyy1 hx2
                  obtain ⟨csm, hem, hrm⟩ := Els.one1 hP5.n0
                  obtain ⟨cm, ⟨vm, rfl, hbm⟩, hrx⟩ := (hem.mono hyz).at (hrm.mono hyz) hxm
                  have hatm := hem.isAt hrm (by decide) hj'
                  have h30 : g0.length ≤ 30 := (hI5.ok.net 0 (by omega)).1
                  have h15 := (hI5.ok.net 0 (by omega)).2 x (List.mem_of_getElem? hxm)
                  obtain ⟨f, hf, hfok, hfk, hfb⟩ := (hI5.msg 0 (by omega) x (List.mem_of_getElem? hxm)).read
                  have hfbd := frmOk_bound hfok
                  have hfr := frmRead_i x.bytes vm x2 hbm (by omega)
                  have htk := rdN_take hxm hf
                  refine gO ?_
                  try simp only [wr10]
                  ((first | refine ⟨⟨by omega, hP5.atN'⟩, ?_⟩ | refine ⟨hP5.atN', ?_⟩); (try simp only [seval, go_sem]))
                  (refine ldF.one _ (by first | exact .inl ((hP5.N.mono hyz).cell 0 rfl) | exact ((hP5.N.mono hyz).cell 0 rfl)) ?_; (try simp only [seval, go_sem]))
                  (refine ⟨⟨by omega, by omega, hatm⟩, ?_⟩; (try simp only [seval, go_sem]))
                  (refine ldF.one _ (by first | exact .inl (hrx.cell 1 rfl) | exact (hrx.cell 1 rfl)) ?_; (try simp only [seval, go_sem]))
                  simp only [hf] at hfr
                  refine tT ?_; refine callP (hfr) rfl rfl ?_; rintro u y3 hy3 ⟨w, rfl, hw9⟩; refine gO ?_; (try simp only [seval, go_sem])
                  obtain ⟨A9, k9, rfl, _, _, _⟩ := hw9.form
                  refine gO ?_
                  by_cases hk4 : f.kind = 3
                  · have q9 : (f.kind == 3) = true := by simp [hk4]
                    have w9 : IntKind.i64.wrap (p + 1) = p + 1 := wrap_in (by omega) (by omega)
                    repeat (simp only [seval, go_sem, q9]; refine gO ?_)
                    try simp only [w9]
                    refine ⟨⟨p + 1, j + 1, y3⟩, ⟨Zc.trans' hx2 hy3, by dsimp only; omega, ?_, by dsimp only; omega⟩, by dsimp only; omega, ?_⟩
                    · dsimp only
                      rw [htk, pcs_snoc, if_pos hk4, hp]
                      simp only [List.length_append, List.length_singleton]; omega
                    · exact lX
                  · have q9 : (f.kind == 3) = false := by simp [hk4]
                    repeat (simp only [seval, go_sem, q9]; refine gO ?_)
                    refine ⟨⟨p, j + 1, y3⟩, ⟨Zc.trans' hx2 hy3, by dsimp only; omega, ?_, by dsimp only; omega⟩, by dsimp only; omega, ?_⟩
                    · dsimp only
                      rw [htk, pcs_snoc, if_neg hk4, hp]
                      simp
                    · exact lX
                · have hje : j = g0.length := by have := of_decide_eq_false hg; omega
                  subst hje
                  rw [List.take_length] at hp
                  refine gO ?_
                  ((first | refine ⟨⟨by omega, hP5.atE'⟩, ?_⟩ | refine ⟨hP5.atE', ?_⟩); (try simp only [seval, go_sem]))
                  (refine ldF.one _ (by first | exact .inl ((hP5.E.mono (Zc.trans' hyy1 hx2)).cell 22 rfl) | exact ((hP5.E.mono (Zc.trans' hyy1 hx2)).cell 22 rfl)) ?_; (try simp only [seval, go_sem]))
                  have hne : (f0.crx.out != p) = false := by
                    have := hd1.way
                    rw [hp, ← this]
                    exact bne_self_eq_false _
                  repeat (simp only [seval, go_sem, hne]; refine gO ?_)
                  refine ⟨⟨1, x2⟩, ⟨Zc.trans' hy (Zc.trans' hy2 hx2), by dsimp only; omega⟩, by dsimp only; omega, ?_⟩
                  exact lX
        · refine gO ?_
          try simp only [wr11]
          (refine ⟨⟨by omega, by omega, hP5.atE'⟩, ?_⟩; (try simp only [seval, go_sem]))
          (refine ldF.one _ (by first | exact .inl ((hP5.E.mono hy).cell 17 rfl) | exact ((hP5.E.mono hy).cell 17 rfl)) ?_; (try simp only [seval, go_sem]))
          refine gO ?_
          refine loop_upd (ι := Int × Nat × Zc) (n := 2) (fun s => y ≤ s.2.2 ∧ s.2.1 ≤ g0.length ∧ s.1 = f0.ctx.hav + grs (rdN (g0.take s.2.1)) ∧ (0 ≤ s.1 ∧ s.1 ≤ 300 + 300 * s.2.1)) (fun s => [(9, .c (.v (.int .i64 s.2.1))), (8, .c (.v (.int .i64 s.1)))]) (fun _ => [(0, .cells 24 (c5 c)), (1, .cells tyW (wldE c lk m5))]) (fun s => s.2.2) (fun s => g0.length - s.2.1) ⟨f0.ctx.hav, 0, y⟩ ⟨Zc.rfl' _, by simp, by simp [rdN, grs], by have := q0.ctx.hav; dsimp only; omega⟩ (by (simp only [wrI, wrR, anyL, st, List.append_nil, List.nil_append, List.cons_append]); exact rfl) ?_ ?_
          · simp only [wldE]
            exact lX
          · rintro ⟨n, j, y2⟩ ⟨hy2, hj, hn, hnb⟩
            dsimp only at *
            simp only [wldE]
            refine gO ?_
            try simp only [wr11]
            (refine ⟨⟨by omega, by omega, hP5.atN'⟩, ?_⟩; (try simp only [seval, go_sem]))
            (refine ldF.one _ (by first | exact .inl ((hP5.N.mono (Zc.trans' hy hy2)).cell 0 rfl) | exact ((hP5.N.mono (Zc.trans' hy hy2)).cell 0 rfl)) ?_; (try simp only [seval, go_sem]))
            refine gO ?_
            (with_reducible refine condI.split (fun hg => ?_) (fun hg => ?_) <;> (try simp only [hg]) <;> (try simp only [seval, go_sem]))
            · have hj' : j < g0.length := by have := of_decide_eq_true hg; omega
              obtain ⟨x, hxm⟩ : ∃ x, g0[j]? = some x := ⟨_, List.getElem?_eq_getElem hj'⟩
              have hyz := Zc.trans' hy hy2
              obtain ⟨csm, hem, hrm⟩ := Els.one1 hP5.n0
              obtain ⟨cm, ⟨vm, rfl, hbm⟩, hrx⟩ := (hem.mono hyz).at (hrm.mono hyz) hxm
              have hatm := hem.isAt hrm (by decide) hj'
              have h30 : g0.length ≤ 30 := (hI5.ok.net 0 (by omega)).1
              have h15 := (hI5.ok.net 0 (by omega)).2 x (List.mem_of_getElem? hxm)
              obtain ⟨f, hf, hfok, hfk, hfb⟩ := (hI5.msg 0 (by omega) x (List.mem_of_getElem? hxm)).read
              have hfbd := frmOk_bound hfok
              have hfr := frmRead_i x.bytes vm y2 hbm (by omega)
              have htk := rdN_take hxm hf
              refine gO ?_
              try simp only [wr11]
              (refine ⟨⟨by omega, by omega, hP5.atN'⟩, ?_⟩; (try simp only [seval, go_sem]))
              (refine ldF.one _ (by first | exact .inl ((hP5.N.mono hyz).cell 0 rfl) | exact ((hP5.N.mono hyz).cell 0 rfl)) ?_; (try simp only [seval, go_sem]))
              (refine ⟨⟨by omega, by omega, hatm⟩, ?_⟩; (try simp only [seval, go_sem]))
              (refine ldF.one _ (by first | exact .inl (hrx.cell 1 rfl) | exact (hrx.cell 1 rfl)) ?_; (try simp only [seval, go_sem]))
              simp only [hf] at hfr
              refine tT ?_; refine callP (hfr) rfl rfl ?_; rintro u y3 hy3 ⟨w, rfl, hw9⟩; refine gO ?_; (try simp only [seval, go_sem])
              obtain ⟨A9, k9, rfl, _, _, _⟩ := hw9.form
              refine gO ?_
              by_cases hk4 : f.kind = 4
              · have q9 : (f.kind == 4) = true := by simp [hk4]
                have w9 : IntKind.i64.wrap (n + f.len) = n + f.len := wrap_in (by omega) (by omega)
                repeat (simp only [seval, go_sem, q9]; refine gO ?_)
                try simp only [w9]
                refine ⟨⟨n + f.len, j + 1, y3⟩, ⟨Zc.trans' hy2 hy3, by dsimp only; omega, ?_, by dsimp only; omega⟩, by dsimp only; omega, ?_⟩
                · dsimp only
                  rw [htk, grs_snoc, if_pos hk4, hn]
                  omega
                · exact lX
              · have q9 : (f.kind == 4) = false := by simp [hk4]
                repeat (simp only [seval, go_sem, q9]; refine gO ?_)
                refine ⟨⟨n, j + 1, y3⟩, ⟨Zc.trans' hy2 hy3, by dsimp only; omega, ?_, by dsimp only; omega⟩, by dsimp only; omega, ?_⟩
                · dsimp only
                  rw [htk, grs_snoc, if_neg hk4, hn]
                  omega
                · exact lX
            · have hje : j = g0.length := by have := of_decide_eq_false hg; omega
              subst hje
              rw [List.take_length] at hn
              have hn1 := hn
              have hyy1 := Zc.trans' hy hy2
              have hnb1 : 0 ≤ n ∧ n ≤ 20000 := by have h30 : g0.length ≤ 30 := (hI5.ok.net 0 (by omega)).1; omega
              refine gO ?_
              refine loop_upd (ι := Int × Nat × Zc) (n := 2) (fun s => y2 ≤ s.2.2 ∧ s.2.1 ≤ g1.length ∧ s.1 = f0.ctx.hav + grs (rdN g0) + ((pcs (rdN (g1.take s.2.1))).length : Int) ∧ (0 ≤ s.1 ∧ s.1 ≤ 20000 + 300 * s.2.1)) (fun s => [(12, .c (.v (.int .i64 s.2.1))), (8, .c (.v (.int .i64 s.1)))]) (fun _ => [(0, .cells 24 (c5 c)), (1, .cells tyW (wldE c lk m5))]) (fun s => s.2.2) (fun s => g1.length - s.2.1) ⟨n, 0, y2⟩ ⟨Zc.rfl' _, by simp, by dsimp only; rw [hn1]; simp [rdN, pcs], by dsimp only; omega⟩ (by (simp only [wrI, wrR, anyL, st, List.append_nil, List.nil_append, List.cons_append]); exact rfl) ?_ ?_
              · simp only [wldE]
                exact lX
              · rintro ⟨p, j, x2⟩ ⟨hx2, hj2, hp, hpb⟩
                dsimp only at *
                simp only [wldE]
                refine gO ?_
                try simp only [wr11]
                ((first | refine ⟨⟨by omega, hP5.atN'⟩, ?_⟩ | refine ⟨hP5.atN', ?_⟩); (try simp only [seval, go_sem]))
                (refine ldF.one _ (by first | exact .inl ((hP5.N.mono (Zc.trans' hyy1 hx2)).cell 1 rfl) | exact ((hP5.N.mono (Zc.trans' hyy1 hx2)).cell 1 rfl)) ?_; (try simp only [seval, go_sem]))
                refine gO ?_
                (with_reducible refine condI.split (fun hg => ?_) (fun hg => ?_) <;> (try simp only [hg]) <;> (try simp only [seval, go_sem]))
                · have hj' : j < g1.length := by have := of_decide_eq_true hg; omega
                  obtain ⟨x, hxm⟩ : ∃ x, g1[j]? = some x := ⟨_, List.getElem?_eq_getElem hj'⟩
                  have hyz := Zc.trans' hyy1 hx2
                  obtain ⟨csm, hem, hrm⟩ := Els.one1 hP5.n1
                  obtain ⟨cm, ⟨vm, rfl, hbm⟩, hrx⟩ := (hem.mono hyz).at (hrm.mono hyz) hxm
                  have hatm := hem.isAt hrm (by decide) hj'
                  have h30 : g1.length ≤ 30 := (hI5.ok.net 1 (by omega)).1
                  have h15 := (hI5.ok.net 1 (by omega)).2 x (List.mem_of_getElem? hxm)
                  obtain ⟨f, hf, hfok, hfk, hfb⟩ := (hI5.msg 1 (by omega) x (List.mem_of_getElem? hxm)).read
                  have hfbd := frmOk_bound hfok
                  have hfr := frmRead_i x.bytes vm x2 hbm (by omega)
                  have htk := rdN_take hxm hf
                  refine gO ?_
                  try simp only [wr11]
                  ((first | refine ⟨⟨by omega, hP5.atN'⟩, ?_⟩ | refine ⟨hP5.atN', ?_⟩); (try simp only [seval, go_sem]))
                  (refine ldF.one _ (by first | exact .inl ((hP5.N.mono hyz).cell 1 rfl) | exact ((hP5.N.mono hyz).cell 1 rfl)) ?_; (try simp only [seval, go_sem]))
                  (refine ⟨⟨by omega, by omega, hatm⟩, ?_⟩; (try simp only [seval, go_sem]))
                  (refine ldF.one _ (by first | exact .inl (hrx.cell 1 rfl) | exact (hrx.cell 1 rfl)) ?_; (try simp only [seval, go_sem]))
                  simp only [hf] at hfr
                  refine tT ?_; refine callP (hfr) rfl rfl ?_; rintro u y3 hy3 ⟨w, rfl, hw9⟩; refine gO ?_; (try simp only [seval, go_sem])
                  obtain ⟨A9, k9, rfl, _, _, _⟩ := hw9.form
                  refine gO ?_
                  by_cases hk4 : f.kind = 3
                  · have q9 : (f.kind == 3) = true := by simp [hk4]
                    have w9 : IntKind.i64.wrap (p + 1) = p + 1 := wrap_in (by omega) (by omega)
                    repeat (simp only [seval, go_sem, q9]; refine gO ?_)
                    try simp only [w9]
                    refine ⟨⟨p + 1, j + 1, y3⟩, ⟨Zc.trans' hx2 hy3, by dsimp only; omega, ?_, by dsimp only; omega⟩, by dsimp only; omega, ?_⟩
                    · dsimp only
                      rw [htk, pcs_snoc, if_pos hk4, hp]
                      simp only [List.length_append, List.length_singleton]; omega
                    · exact lX
                  · have q9 : (f.kind == 3) = false := by simp [hk4]
                    repeat (simp only [seval, go_sem, q9]; refine gO ?_)
                    refine ⟨⟨p, j + 1, y3⟩, ⟨Zc.trans' hx2 hy3, by dsimp only; omega, ?_, by dsimp only; omega⟩, by dsimp only; omega, ?_⟩
                    · dsimp only
                      rw [htk, pcs_snoc, if_neg hk4, hp]
                      simp
                    · exact lX
                · have hje : j = g1.length := by have := of_decide_eq_false hg; omega
                  subst hje
                  rw [List.take_length] at hp
                  refine gO ?_
                  ((first | refine ⟨⟨by omega, hP5.atE'⟩, ?_⟩ | refine ⟨hP5.atE', ?_⟩); (try simp only [seval, go_sem]))
                  (refine ldF.one _ (by first | exact .inl ((hP5.E.mono (Zc.trans' hyy1 hx2)).cell 50 rfl) | exact ((hP5.E.mono (Zc.trans' hyy1 hx2)).cell 50 rfl)) ?_; (try simp only [seval, go_sem]))
                  have hne : (f1.crx.out != p) = false := by
                    have := hd0.way
                    rw [hp, ← this]
                    exact bne_self_eq_false _
                  repeat (simp only [seval, go_sem, hne]; refine gO ?_)
                  refine ⟨⟨2, x2⟩, ⟨Zc.trans' hy (Zc.trans' hy2 hx2), by dsimp only; omega⟩, by dsimp only; omega, ?_⟩
                  exact lX
        · refine gO ?_
          refine ⟨⟨i + 1, f0, f1, g0, g1, lk, m5, y⟩, ⟨Zc.trans' hz3 (Zc.trans' hz4 (Zc.trans' hz5 hy)), by dsimp only; omega, hP5.mono hy, hI5⟩, by dsimp only; omega, ?_⟩
          exact lX
    · refine gO ?_
      refine tT ?_; refine callP (liok z3) rfl rfl ?_; rintro _ _ - ⟨rfl, rfl⟩; refine gO ?_
      (first|refine fN ?_|exact fZ)
end Go.Proofs.YtpblmlaahapohaaGreat
