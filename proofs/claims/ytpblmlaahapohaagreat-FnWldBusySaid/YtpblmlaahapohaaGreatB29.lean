/- Who is busy takes nothing: the law's walk. -/
import Derived.Test.YtpblmlaahapohaaGreatB22
namespace Go.Proofs.YtpblmlaahapohaaGreat
open Go.RowKit
set_option linter.unusedVariables false
set_option linter.unusedSimpArgs false
set_option maxRecDepth 100000
set_option maxHeartbeats 8000000
theorem wldBusy_law (code : List Int) (v : Value) (z : Zc) (h : By z code v) : PSpec Tryz.prog 8 [v] z fun u z' => u = .bool true := by
  obtain ⟨A0, c0, rfl, hc0, hB0, hr0⟩ := h.form
  (refine pspec_enter Tryz.func8 ic8_ok fr8_ok Tryz.ntmps8 ?_; simp only [seval, go_sem, ic8, fr8])
  refine gO ?_
  (with_reducible refine condI.split (fun hg => ?_) (fun hg => ?_) <;> (try simp only [hg]) <;> (try simp only [seval, go_sem]))
  · (first|refine fN ?_|exact fZ)
  have hlen : code.length ≤ 1048576 := by have := of_decide_eq_false hg; omega
  refine gO ?_
  refine tT ?_; refine callP (drawPlay_s code _ z h (by omega)) rfl rfl ?_; rintro u z1 hz1 ⟨c, evs, B, kB, rfl, hE, hc, hm, hev, hel⟩; refine gO ?_
  refine tT ?_; refine callP (wldnew_i c z1 hc) rfl rfl ?_; rintro u z2 hz2 ⟨e0, e1, n0, n1, m, link, hw0, rfl, hP⟩; refine gO ?_
  have hI0 := wldNew_N hc hm
  rw [hw0] at hI0
  obtain ⟨cs, hEe, hEr⟩ := Els.one1 hE
  refine loop_upd (ι := RunS) (n := 2) (LawI z2 c evs.length) (fun s => [(6, .c (.v (.int .i64 s.i)))]) (fun s => [(0, .cells 24 (c5 c)), (1, .cells tyW (wldE c s.link s.m))]) (fun s => s.z) (fun s => evs.length - s.i) ⟨0, e0, e1, n0, n1, link, m, z2⟩ ⟨Zc.rfl' _, by simp, hP, hI0⟩ (by (simp only [wrI, wrR, anyL, st, List.append_nil, List.nil_append, List.cons_append]); exact rfl) ?_ ?_
  · simp only [wldE]
    exact lX
  · rintro ⟨i, e0, e1, n0, n1, link, m, z3⟩ ⟨hz3, hi, hP, hI⟩
    dsimp only at *
    simp only [wldE]
    refine gO ?_
    (with_reducible refine condI.split (fun hg => ?_) (fun hg => ?_) <;> (try simp only [hg]) <;> (try simp only [seval, go_sem]))
    · have hi' : i < evs.length := by have := of_decide_eq_true hg; omega
      obtain ⟨ev, hx⟩ : ∃ x, evs[i]? = some x := ⟨_, List.getElem?_eq_getElem hi'⟩
      have hed := hev ev (List.mem_of_getElem? hx)
      have hz13 := Zc.trans' hz2 hz3
      obtain ⟨c1, ⟨v, rfl, hb⟩, hr1⟩ := (hEe.mono hz13).at (hEr.mono hz13) hx
      obtain ⟨A1, k1, rfl, hk1, hB1, hrb⟩ := By.form hb
      have hat : IsAt B := hEe.isAt hEr (by decide) hi'
      refine gO ?_
      refine joinV.le (ι := RunS) (fun s => z3 ≤ s.z ∧ step false ⟨c, [e0, e1], [n0, n1], link⟩ ev = ⟨c, [s.e0, s.e1], [s.n0, s.n1], s.link⟩ ∧ WldP s.z s.e0 s.e1 s.n0 s.n1 s.m) [7, 27, 28, 29, 30, 31, 32] (fun _ => [(7, .c (.p 2 0))])
        (fun s => [(0, .cells 24 (c5 c)), (1, .cells tyW (wldE c link m)), (2, .cells tyW (wldE c s.link s.m))]) (fun s => s.z) 3 (by simp only [anyL, st]; exact rfl) ?_ ?_
      · simp only [seval, go_sem]
        (refine ⟨⟨by omega, by omega, hat⟩, ?_⟩; (try simp only [seval, go_sem]))
        (refine ldF.agg _ rfl (by first | exact .inl hr1 | exact hr1) ?_; (try simp only [seval, go_sem]))
        repeat' (refine And.intro ?_ ?_ <;> (try simp only [seval, go_sem]))
        all_goals refine tT ?_; refine callP (wldstep_i QN stepP_N c link e0 e1 n0 n1 m ev (.slice A1 ev.data.length k1) z3 hP hI.ok hb (hI.stepOk hed)) rfl rfl ?_; rintro u z4 hz4 ⟨f0, f1, g0, g1, m5, lk, hw, rfl, hP5⟩; refine gO ?_
        all_goals refine ⟨⟨0, f0, f1, g0, g1, lk, m5, z4⟩, ⟨hz4, hw, hP5⟩, ?_⟩
        all_goals simp only [wldE]
        all_goals exact lX
      · rintro ⟨_, f0, f1, g0, g1, lk, m5, z4⟩ ⟨hz4, hw, hP5⟩
        dsimp only at *
        simp only [wldE]
        have hI5 := step_N (g := false) hI ev hB1 (by omega)
        rw [hw] at hI5
        refine gO ?_
        refine loop_upd (ι := Nat) (n := 3) (fun k => k ≤ 2) (fun k => [(8, .c (.v (.int .i64 k)))]) (fun _ => [(0, .cells 24 (c5 c)), (1, .cells tyW (wldE c link m)), (2, .cells tyW (wldE c lk m5))]) (fun _ => z4) (fun k => 2 - k) 0 (by omega) (by (simp only [wrI, wrR, anyL, st, List.append_nil, List.nil_append, List.cons_append]); exact rfl) ?_ ?_
        · simp only [wldE]
          exact lX
        · intro k hk
          simp only [wldE]
          have hk3 : k = 0 ∨ k = 1 ∨ k = 2 := by omega
          rcases hk3 with rfl | rfl | rfl
          · obtain ⟨ha, hb2⟩ := step_busy (g := false) hI ev (i := 0) (by omega)
            rw [hw] at ha hb2
            change e0.rx.busy = true → f0.rx.busy = true → f0.got.length = e0.got.length ∧ f0.rx.count = e0.rx.count at ha
            change e0.tx.held = true ∨ e0.tx.asks = true → ev.kind = 2 → f0.tx.sent = e0.tx.sent ∧ f0.tx.flight.length = e0.tx.flight.length at hb2
            have n1 : e0.rx.busy = true → f0.rx.busy = true → ((f0.got.length : Int) != (e0.got.length : Int)) = false := fun h1 h2 => by rw [(ha h1 h2).1]; exact bne_self_eq_false _
            have n2 : e0.rx.busy = true → f0.rx.busy = true → (f0.rx.count != e0.rx.count) = false := fun h1 h2 => by rw [(ha h1 h2).2]; exact bne_self_eq_false _
            have n3 : (e0.tx.held = true ∨ e0.tx.asks = true) → (ev.kind == 2) = true → (f0.tx.sent != e0.tx.sent) = false := fun h1 h2 => by rw [(hb2 h1 (by simpa using h2)).1]; exact bne_self_eq_false _
            have n4 : (e0.tx.held = true ∨ e0.tx.asks = true) → (ev.kind == 2) = true → ((f0.tx.flight.length : Int) != (e0.tx.flight.length : Int)) = false := fun h1 h2 => by rw [(hb2 h1 (by simpa using h2)).2]; exact bne_self_eq_false _
            clear ha hb2
            refine gO ?_
            ((first | refine ⟨⟨by omega, hP.atE⟩, ?_⟩ | refine ⟨hP.atE, ?_⟩); (try simp only [seval, go_sem]))
            refine ldF.agg (sz := 28) _ rfl (by exact .inl ((hP.E.mono hz4).sub 0 _ (fun i u hu => ends_get0 hu))) ?_
            simp only [seval, go_sem, endC]
            refine gO ?_
            ((first | refine ⟨⟨by omega, hP5.atE⟩, ?_⟩ | refine ⟨hP5.atE, ?_⟩); (try simp only [seval, go_sem]))
            refine ldF.agg (sz := 28) _ rfl (by exact .inl (hP5.E.sub 0 _ (fun i u hu => ends_get0 hu))) ?_
            simp only [seval, go_sem, endC]
            refine gO ?_
            cases q1 : e0.rx.busy <;> cases q2 : f0.rx.busy <;> cases q3 : e0.tx.held <;> cases q4 : e0.tx.asks <;> cases q5 : (ev.kind == 2)
            all_goals repeat (first | (simp only [seval, go_sem, q1, q2, q3, q4, q5, n1, n2, n3, n4]; refine gO ?_) | ((refine ⟨⟨by omega, by omega, hat⟩, ?_⟩; (try simp only [seval, go_sem])); (refine ldF.one _ (by first | exact .inl ((hr1.mono hz4).cell 0 rfl) | exact ((hr1.mono hz4).cell 0 rfl)) ?_; (try simp only [seval, go_sem]))))
            all_goals refine ⟨1, by omega, by omega, ?_⟩
            all_goals exact lX
          · obtain ⟨ha, hb2⟩ := step_busy (g := false) hI ev (i := 1) (by omega)
            rw [hw] at ha hb2
            change e1.rx.busy = true → f1.rx.busy = true → f1.got.length = e1.got.length ∧ f1.rx.count = e1.rx.count at ha
            change e1.tx.held = true ∨ e1.tx.asks = true → ev.kind = 2 → f1.tx.sent = e1.tx.sent ∧ f1.tx.flight.length = e1.tx.flight.length at hb2
            have n1 : e1.rx.busy = true → f1.rx.busy = true → ((f1.got.length : Int) != (e1.got.length : Int)) = false := fun h1 h2 => by rw [(ha h1 h2).1]; exact bne_self_eq_false _
            have n2 : e1.rx.busy = true → f1.rx.busy = true → (f1.rx.count != e1.rx.count) = false := fun h1 h2 => by rw [(ha h1 h2).2]; exact bne_self_eq_false _
            have n3 : (e1.tx.held = true ∨ e1.tx.asks = true) → (ev.kind == 2) = true → (f1.tx.sent != e1.tx.sent) = false := fun h1 h2 => by rw [(hb2 h1 (by simpa using h2)).1]; exact bne_self_eq_false _
            have n4 : (e1.tx.held = true ∨ e1.tx.asks = true) → (ev.kind == 2) = true → ((f1.tx.flight.length : Int) != (e1.tx.flight.length : Int)) = false := fun h1 h2 => by rw [(hb2 h1 (by simpa using h2)).2]; exact bne_self_eq_false _
            clear ha hb2
            refine gO ?_
            ((first | refine ⟨⟨by omega, hP.atE⟩, ?_⟩ | refine ⟨hP.atE, ?_⟩); (try simp only [seval, go_sem]))
            refine ldF.agg (sz := 28) _ rfl (by exact .inl ((hP.E.mono hz4).sub 28 _ (fun i u hu => ends_get1 hu))) ?_
            simp only [seval, go_sem, endC]
            refine gO ?_
            ((first | refine ⟨⟨by omega, hP5.atE⟩, ?_⟩ | refine ⟨hP5.atE, ?_⟩); (try simp only [seval, go_sem]))
            refine ldF.agg (sz := 28) _ rfl (by exact .inl (hP5.E.sub 28 _ (fun i u hu => ends_get1 hu))) ?_
            simp only [seval, go_sem, endC]
            refine gO ?_
            cases q1 : e1.rx.busy <;> cases q2 : f1.rx.busy <;> cases q3 : e1.tx.held <;> cases q4 : e1.tx.asks <;> cases q5 : (ev.kind == 2)
            all_goals repeat (first | (simp only [seval, go_sem, q1, q2, q3, q4, q5, n1, n2, n3, n4]; refine gO ?_) | ((refine ⟨⟨by omega, by omega, hat⟩, ?_⟩; (try simp only [seval, go_sem])); (refine ldF.one _ (by first | exact .inl ((hr1.mono hz4).cell 0 rfl) | exact ((hr1.mono hz4).cell 0 rfl)) ?_; (try simp only [seval, go_sem]))))
            all_goals refine ⟨2, by omega, by omega, ?_⟩
            all_goals exact lX
          · refine gO ?_
            refine ⟨⟨i + 1, f0, f1, g0, g1, lk, m5, z4⟩, ⟨Zc.trans' hz3 hz4, by dsimp only; omega, hP5, hI5⟩, by dsimp only; omega, ?_⟩
            exact lX
    · refine gO ?_
      refine tT ?_; refine callP (wldok_i c link e0 e1 n0 n1 m z3 hP hI.ok) rfl rfl ?_; rintro u z5 hz5 rfl; refine gO ?_
      refine gO ?_
      refine tT ?_; refine callP (liok z5) rfl rfl ?_; rintro _ _ - ⟨rfl, rfl⟩; refine gO ?_
      (first|refine fN ?_|exact fZ)
end Go.Proofs.YtpblmlaahapohaaGreat
