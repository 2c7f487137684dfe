/- What is on its way is what was sent: the law's walk. -/
import Derived.Test.YtnkhjnieidlknaaGreatB24
import Derived.Test.YtnkhjnieidlknaaGreatB31
namespace Go.Proofs.YtnkhjnieidlknaaGreat
open Go.RowKit
set_option linter.unusedVariables false
set_option linter.unusedSimpArgs false
set_option maxRecDepth 100000
set_option maxHeartbeats 8000000
theorem lipart (p : Part) (v u : Value) (z : Zc) (hv : By z p.data v) (hu : By z p.data u) (hl : p.data.length ≤ 100) : PSpec Tryz.prog 16 [vPart p v, vPart p u] z fun w z' => w = .bool true ∧ z = z' := by
 have hc := libytes p.data p.data v u z hv hu (by omega) (by omega)
 obtain ⟨A, c, rfl, _, _, _⟩ := hv.form
 obtain ⟨A2, c2, rfl, _, _, _⟩ := hu.form
 (refine pspec_enter Tryz.func16 ic16_ok fr16_ok Tryz.ntmps16 ?_; simp only [seval, go_sem, ic16, fr16])
 refine gO ?_
 repeat (simp only [seval, go_sem, beq_self_eq_true]; refine gO ?_)
 refine tT ?_; refine callP (hc) rfl rfl ?_; rintro _ _ - ⟨rfl, rfl⟩; refine gO ?_
 try simp only [seval, go_sem, decide_true]
 (first|refine fN ?_|exact fZ)
theorem numLast_law (code : List Int) (v : Value) (z : Zc) (h : By z code v) : PSpec Tryz.prog 4 [v] z fun u z' => u = .bool true := by
 obtain ⟨A0, c0, rfl, hc0, hB0, hr0⟩ := h.form
 (refine pspec_enter Tryz.func4 ic4_ok fr4_ok Tryz.ntmps4 ?_; simp only [seval, go_sem, ic4, fr4])
 refine gO ?_
 (with_reducible refine condI.split (fun hg => ?_) (fun hg => ?_) <;> (try simp only [hg]) <;> (try simp only [seval, go_sem]))
 ·(first|refine fN ?_|exact fZ)
 have hlen : code.length ≤ 1048576 := by have := of_decide_eq_false hg; omega
 refine gO ?_
 refine tT ?_; refine callP (drawPlay_s code _ z h (by omega)) rfl rfl ?_; rintro u z1 hz1 ⟨c, evs, B, kB, rfl, hE, hc, hm, hev, hel⟩; refine gO ?_
 refine tT ?_; refine callP (wldnew_i c z1 hc) rfl rfl ?_; rintro u z2 hz2 ⟨e0, e1, n0, n1, m, link, hw0, rfl, hP⟩; refine gO ?_
 have hI0 := wldNew_N hc hm
 rw [hw0] at hI0
 obtain ⟨cs, hEe, hEr⟩ := Els.one1 hE
 refine loop_upd (ι := RunS) (n := 2) (LawI z2 c evs.length) (fun s => [(6, .c (.v (.int .i64 s.i)))]) (fun s => [(0, .cells 24 (c5 c)), (1, .cells tyW (wldE c s.link s.m))]) (fun s => s.z) (fun s => evs.length - s.i) ⟨0, e0, e1, n0, n1, link, m, z2⟩ ⟨Zc.rfl' _, by simp, hP, hI0⟩ (by (simp only [wrI, wrR, anyL, st, List.append_nil, List.nil_append, List.cons_append]); exact rfl) ?_ ?_
 ·simp only [wldE]
  exact lX
 ·rintro ⟨i, e0, e1, n0, n1, link, m, z3⟩ ⟨hz3, hi, hP, hI⟩
  dsimp only at *
  simp only [wldE]
  refine gO ?_
  (with_reducible refine condI.split (fun hg => ?_) (fun hg => ?_) <;> (try simp only [hg]) <;> (try simp only [seval, go_sem]))
  ·have hi' : i < evs.length := by have := of_decide_eq_true hg; omega
   obtain ⟨ev, hx⟩ : ∃ x, evs[i]? = some x := ⟨_, List.getElem?_eq_getElem hi'⟩
   have hed := hev ev (List.mem_of_getElem? hx)
   have hz13 := Zc.trans' hz2 hz3
   obtain ⟨c1, ⟨v, rfl, hb⟩, hr1⟩ := (hEe.mono hz13).at (hEr.mono hz13) hx
   obtain ⟨A1, k1, rfl, hk1, hB1, hrb⟩ := By.form hb
   have hat : IsAt B := hEe.isAt hEr (by decide) hi'
   refine gO ?_
   (refine ⟨⟨by omega, by omega, hat⟩, ?_⟩; (try simp only [seval, go_sem]))
   refine ldF.agg _ rfl (by first | exact .inl hr1 | exact hr1) ?_
   refine gO ?_
   refine tT ?_; refine callP (wldstep_i QN stepP_N c link e0 e1 n0 n1 m ev (.slice A1 ev.data.length k1) z3 hP hI.ok hb (hI.stepOk hed)) rfl rfl ?_; rintro u z4 hz4 ⟨f0, f1, g0, g1, m5, lk, hw, rfl, hP5⟩; refine gO ?_
   have hI5 := step_N (g := false) hI ev hB1 (by omega)
   rw [hw] at hI5
   refine gO ?_
   refine loop_upd (ι := Nat × Zc) (n := 2) (fun s => z4 ≤ s.2 ∧ s.1 ≤ 2) (fun s => [(7, .c (.v (.int .i64 s.1)))]) (fun _ => [(0, .cells 24 (c5 c)), (1, .cells tyW (wldE c lk m5))]) (fun s => s.2) (fun s => 2 - s.1) ⟨0, z4⟩ ⟨Zc.rfl' _, by simp⟩ (by (simp only [wrI, wrR, anyL, st, List.append_nil, List.nil_append, List.cons_append]); exact rfl) ?_ ?_
   ·simp only [wldE]
    exact lX
   ·rintro ⟨k, y⟩ ⟨hy, hk⟩
    dsimp only at *
    simp only [wldE]
    have hk3 : k = 0 ∨ k = 1 ∨ k = 2 := by omega
    rcases hk3 with rfl | rfl | rfl
    ·refine gO ?_
     try simp only [wr10]
     (refine ⟨⟨by omega, by omega, hP5.atE⟩, ?_⟩; (try simp only [seval, go_sem]))
     refine ldF.agg _ rfl (by first | exact .inl (hP5.tx1.mono hy) | exact (hP5.tx1.mono hy)) ?_
     refine gO ?_
     ((first | refine ⟨⟨by omega, hP5.atE⟩, ?_⟩ | refine ⟨hP5.atE, ?_⟩); (try simp only [seval, go_sem]))
     refine ldF.agg _ rfl (by first | exact .inl (hP5.rx0.mono hy) | exact (hP5.rx0.mono hy)) ?_
     refine gO ?_
     refine loop_upd (ι := Nat × Zc) (n := 4) (fun s => y ≤ s.2 ∧ s.1 ≤ g0.length) (fun s => [(10, .c (.v (.int .i64 s.1)))]) (fun _ => [(0, .cells 24 (c5 c)), (1, .cells tyW (wldE c lk m5)), (2, .cells 38 [.v (.int .i64 f1.tx.next), .v (.int .i64 f1.tx.acked), .v (.slice m5.m1.fA f1.tx.flight.length m5.m1.fC), .v (.int .i64 f1.tx.sent), .v (.slice m5.m1.qA f1.tx.queue.length m5.m1.qC), .v (.bool f1.tx.asks), .v (.int .i64 f1.tx.tries), .v (.bool f1.tx.held), .v (.int .i64 f1.tx.count), .v (.bool f1.tx.dead)]), (3, .cells 42 [.v (.int .i64 f0.rx.expect), .v (.int .i64 f0.rx.count), .v (.int .i64 f0.rx.join.len), .v (.slice m5.m0.jA f0.rx.join.got.length m5.m0.jC), .v (.bool f0.rx.again), .v (.bool f0.rx.busy), .v (.bool f0.rx.dead)])]) (fun s => s.2) (fun s => g0.length - s.1) ⟨0, y⟩ ⟨Zc.rfl' _, by simp⟩ (by (simp only [wrI, wrR, anyL, st, List.append_nil, List.nil_append, List.cons_append]); exact rfl) ?_ ?_
     ·simp only [wldE]
      exact lX
     ·rintro ⟨j, y2⟩ ⟨hy2, hj⟩
      dsimp only at *
      simp only [wldE]
      have hyz := Zc.trans' hy hy2
      refine gO ?_
      ((first | refine ⟨⟨by omega, hP5.atN⟩, ?_⟩ | refine ⟨hP5.atN, ?_⟩); (try simp only [seval, go_sem]))
      refine ldF.one _ (by first | exact .inl ((hP5.N.mono hyz).cell 0 rfl) | exact ((hP5.N.mono hyz).cell 0 rfl)) ?_
      refine gO ?_
      (with_reducible refine condI.split (fun hg => ?_) (fun hg => ?_) <;> (try simp only [hg]) <;> (try simp only [seval, go_sem]))
      ·have hj' : j < g0.length := by have := of_decide_eq_true hg; omega
       obtain ⟨x, hxm⟩ : ∃ x, g0[j]? = some x := ⟨_, List.getElem?_eq_getElem hj'⟩
       obtain ⟨csm, hem, hrm⟩ := Els.one1 hP5.n0
       obtain ⟨cm, ⟨vm, rfl, hbm⟩, hrx⟩ := (hem.mono hyz).at (hrm.mono hyz) hxm
       have hatm := hem.isAt hrm (by decide) hj'
       have h30 : g0.length ≤ 30 := (hI5.ok.net 0 (by omega)).1
       have h15 := (hI5.ok.net 0 (by omega)).2 x (List.mem_of_getElem? hxm)
       have hfr := frmRead_i x.bytes vm y2 hbm (by omega)
       have hmem : x ∈ netAt ⟨c, [f0, f1], [g0, g1], lk⟩ 0 := List.mem_of_getElem? hxm
       refine gO ?_
       ((first | refine ⟨⟨by omega, hP5.atN⟩, ?_⟩ | refine ⟨hP5.atN, ?_⟩); (try simp only [seval, go_sem]))
       (refine ldF.one _ (by first | exact .inl ((hP5.N.mono hyz).cell 0 rfl) | exact ((hP5.N.mono hyz).cell 0 rfl)) ?_; (try simp only [seval, go_sem]))
       (refine ⟨⟨by omega, by omega, hatm⟩, ?_⟩; (try simp only [seval, go_sem]))
       (refine ldF.one _ (by first | exact .inl (hrx.cell 1 rfl) | exact (hrx.cell 1 rfl)) ?_; (try simp only [seval, go_sem]))
       cases hf : frmRead x.bytes with
       | none =>
        simp only [hf] at hfr
        refine tT ?_; refine callP (hfr) rfl rfl ?_; rintro u y3 hy3 rfl; refine gO ?_
        refine gO ?_
        refine ⟨⟨j + 1, y3⟩, ⟨Zc.trans' hy2 hy3, by dsimp only; omega⟩, by dsimp only; omega, ?_⟩
        exact lX
       | some f =>
        simp only [hf] at hfr
        refine tT ?_; refine callP (hfr) rfl rfl ?_; rintro u y3 hy3 ⟨w, rfl, hw9⟩; refine gO ?_; (try simp only [seval, go_sem])
        obtain ⟨A9, k9, rfl, hk9, hB9, hr9⟩ := hw9.form
        refine gO ?_
        by_cases hk1 : f.kind = 1
        ·have q1 : (f.kind != 1) = false := by simp [hk1]
         by_cases hs : f.seq = f0.rx.expect
         ·have q2 : (f.seq != f0.rx.expect) = false := by simp [hs]
          obtain ⟨b1, b2, b3⟩ := hI5.nextIs (i := 0) (by omega) hmem hf hk1 hs
          change 0 ≤ f0.rx.count - f1.tx.count at b1
          change f0.rx.count - f1.tx.count < f1.tx.flight.length at b2
          change f1.tx.flight[(f0.rx.count - f1.tx.count).toNat]? = some ⟨f.seg, f.len, f.data⟩ at b3
          have c1 : 0 ≤ f0.rx.count ∧ f0.rx.count ≤ 9999 := (hI5.ok.ends 0 (by omega)).rx.count
          have c2 : 0 ≤ f1.tx.count ∧ f1.tx.count ≤ 9999 := (hI5.ok.ends 1 (by omega)).tx.count
          have w9 : IntKind.i64.wrap (f0.rx.count - f1.tx.count) = f0.rx.count - f1.tx.count := wrap_in (by omega) (by omega)
          have hfb := frmOk_bound (frmRead_ok hf).1
          repeat (simp only [seval, go_sem, q1, q2, w9]; refine gO ?_)
          obtain ⟨nn, hnn⟩ := Int.eq_ofNat_of_zero_le b1
          rw [hnn] at b2 b3
          rw [Int.toNat_natCast] at b3
          have d1 : decide ((nn : Int) < 0) = false := decide_eq_false (by omega)
          have d2 : decide ((nn : Int) ≥ (f1.tx.flight.length : Int)) = false := decide_eq_false (by omega)
          obtain ⟨csf, hef, hrf⟩ := Els.one1 hP5.e1.fl
          have hy4 := Zc.trans' hyz hy3
          obtain ⟨cf, ⟨vf, rfl, hbf⟩, hrx2⟩ := (hef.mono hy4).at (hrf.mono hy4) b3
          have hatf := hef.isAt hrf (by decide) (show nn < f1.tx.flight.length by omega)
          simp only [hnn]
          repeat (simp only [seval, go_sem, d1, d2]; refine gO ?_)
          (refine ⟨⟨by omega, by omega, hatf⟩, ?_⟩; (try simp only [seval, go_sem]))
          refine ldF.agg _ rfl (by first | exact .inl hrx2 | exact hrx2) ?_
          refine gO ?_
          refine tT ?_; refine callP (lipart ⟨f.seg, f.len, f.data⟩ (.slice A9 f.data.length k9) vf y3 hw9 hbf (by show f.data.length ≤ 100; omega)) rfl rfl ?_; rintro _ _ - ⟨rfl, rfl⟩; refine gO ?_
          refine gO ?_
          refine ⟨⟨j + 1, y3⟩, ⟨Zc.trans' hy2 hy3, by dsimp only; omega⟩, by dsimp only; omega, ?_⟩
          exact lX
         ·have q2 : (f.seq != f0.rx.expect) = true := by simp [hs]
          repeat (simp only [seval, go_sem, q1, q2]; refine gO ?_)
          refine ⟨⟨j + 1, y3⟩, ⟨Zc.trans' hy2 hy3, by dsimp only; omega⟩, by dsimp only; omega, ?_⟩
          exact lX
        ·have q1 : (f.kind != 1) = true := by simp [hk1]
         repeat (simp only [seval, go_sem, q1]; refine gO ?_)
         refine ⟨⟨j + 1, y3⟩, ⟨Zc.trans' hy2 hy3, by dsimp only; omega⟩, by dsimp only; omega, ?_⟩
         exact lX
      ·refine gO ?_
       refine ⟨⟨1, y2⟩, ⟨hyz, by dsimp only; omega⟩, by dsimp only; omega, ?_⟩
       exact lX
    ·refine gO ?_
     try simp only [wr11]
     (refine ⟨⟨by omega, by omega, hP5.atE⟩, ?_⟩; (try simp only [seval, go_sem]))
     refine ldF.agg _ rfl (by first | exact .inl (hP5.tx0.mono hy) | exact (hP5.tx0.mono hy)) ?_
     refine gO ?_
     ((first | refine ⟨⟨by omega, hP5.atE⟩, ?_⟩ | refine ⟨hP5.atE, ?_⟩); (try simp only [seval, go_sem]))
     refine ldF.agg _ rfl (by first | exact .inl (hP5.rx1.mono hy) | exact (hP5.rx1.mono hy)) ?_
     refine gO ?_
     refine loop_upd (ι := Nat × Zc) (n := 4) (fun s => y ≤ s.2 ∧ s.1 ≤ g1.length) (fun s => [(10, .c (.v (.int .i64 s.1)))]) (fun _ => [(0, .cells 24 (c5 c)), (1, .cells tyW (wldE c lk m5)), (2, .cells 38 [.v (.int .i64 f0.tx.next), .v (.int .i64 f0.tx.acked), .v (.slice m5.m0.fA f0.tx.flight.length m5.m0.fC), .v (.int .i64 f0.tx.sent), .v (.slice m5.m0.qA f0.tx.queue.length m5.m0.qC), .v (.bool f0.tx.asks), .v (.int .i64 f0.tx.tries), .v (.bool f0.tx.held), .v (.int .i64 f0.tx.count), .v (.bool f0.tx.dead)]), (3, .cells 42 [.v (.int .i64 f1.rx.expect), .v (.int .i64 f1.rx.count), .v (.int .i64 f1.rx.join.len), .v (.slice m5.m1.jA f1.rx.join.got.length m5.m1.jC), .v (.bool f1.rx.again), .v (.bool f1.rx.busy), .v (.bool f1.rx.dead)])]) (fun s => s.2) (fun s => g1.length - s.1) ⟨0, y⟩ ⟨Zc.rfl' _, by simp⟩ (by (simp only [wrI, wrR, anyL, st, List.append_nil, List.nil_append, List.cons_append]); exact rfl) ?_ ?_
     ·simp only [wldE]
      exact lX
     ·rintro ⟨j, y2⟩ ⟨hy2, hj⟩
      dsimp only at *
      simp only [wldE]
      have hyz := Zc.trans' hy hy2
      refine gO ?_
      ((first | refine ⟨⟨by omega, hP5.atN⟩, ?_⟩ | refine ⟨hP5.atN, ?_⟩); (try simp only [seval, go_sem]))
      refine ldF.one _ (by first | exact .inl ((hP5.N.mono hyz).cell 1 rfl) | exact ((hP5.N.mono hyz).cell 1 rfl)) ?_
      refine gO ?_
      (with_reducible refine condI.split (fun hg => ?_) (fun hg => ?_) <;> (try simp only [hg]) <;> (try simp only [seval, go_sem]))
      ·have hj' : j < g1.length := by have := of_decide_eq_true hg; omega
       obtain ⟨x, hxm⟩ : ∃ x, g1[j]? = some x := ⟨_, List.getElem?_eq_getElem hj'⟩
       obtain ⟨csm, hem, hrm⟩ := Els.one1 hP5.n1
       obtain ⟨cm, ⟨vm, rfl, hbm⟩, hrx⟩ := (hem.mono hyz).at (hrm.mono hyz) hxm
       have hatm := hem.isAt hrm (by decide) hj'
       have h30 : g1.length ≤ 30 := (hI5.ok.net 1 (by omega)).1
       have h15 := (hI5.ok.net 1 (by omega)).2 x (List.mem_of_getElem? hxm)
       have hfr := frmRead_i x.bytes vm y2 hbm (by omega)
       have hmem : x ∈ netAt ⟨c, [f0, f1], [g0, g1], lk⟩ 1 := List.mem_of_getElem? hxm
       refine gO ?_
       ((first | refine ⟨⟨by omega, hP5.atN⟩, ?_⟩ | refine ⟨hP5.atN, ?_⟩); (try simp only [seval, go_sem]))
       (refine ldF.one _ (by first | exact .inl ((hP5.N.mono hyz).cell 1 rfl) | exact ((hP5.N.mono hyz).cell 1 rfl)) ?_; (try simp only [seval, go_sem]))
       (refine ⟨⟨by omega, by omega, hatm⟩, ?_⟩; (try simp only [seval, go_sem]))
       (refine ldF.one _ (by first | exact .inl (hrx.cell 1 rfl) | exact (hrx.cell 1 rfl)) ?_; (try simp only [seval, go_sem]))
       cases hf : frmRead x.bytes with
       | none =>
        simp only [hf] at hfr
        refine tT ?_; refine callP (hfr) rfl rfl ?_; rintro u y3 hy3 rfl; refine gO ?_
        refine gO ?_
        refine ⟨⟨j + 1, y3⟩, ⟨Zc.trans' hy2 hy3, by dsimp only; omega⟩, by dsimp only; omega, ?_⟩
        exact lX
       | some f =>
        simp only [hf] at hfr
        refine tT ?_; refine callP (hfr) rfl rfl ?_; rintro u y3 hy3 ⟨w, rfl, hw9⟩; refine gO ?_; (try simp only [seval, go_sem])
        obtain ⟨A9, k9, rfl, hk9, hB9, hr9⟩ := hw9.form
        refine gO ?_
        by_cases hk1 : f.kind = 1
        ·have q1 : (f.kind != 1) = false := by simp [hk1]
         by_cases hs : f.seq = f1.rx.expect
         ·have q2 : (f.seq != f1.rx.expect) = false := by simp [hs]
          obtain ⟨b1, b2, b3⟩ := hI5.nextIs (i := 1) (by omega) hmem hf hk1 hs
          change 0 ≤ f1.rx.count - f0.tx.count at b1
          change f1.rx.count - f0.tx.count < f0.tx.flight.length at b2
          change f0.tx.flight[(f1.rx.count - f0.tx.count).toNat]? = some ⟨f.seg, f.len, f.data⟩ at b3
          have c1 : 0 ≤ f1.rx.count ∧ f1.rx.count ≤ 9999 := (hI5.ok.ends 1 (by omega)).rx.count
          have c2 : 0 ≤ f0.tx.count ∧ f0.tx.count ≤ 9999 := (hI5.ok.ends 0 (by omega)).tx.count
          have w9 : IntKind.i64.wrap (f1.rx.count - f0.tx.count) = f1.rx.count - f0.tx.count := wrap_in (by omega) (by omega)
          have hfb := frmOk_bound (frmRead_ok hf).1
          repeat (simp only [seval, go_sem, q1, q2, w9]; refine gO ?_)
          obtain ⟨nn, hnn⟩ := Int.eq_ofNat_of_zero_le b1
          rw [hnn] at b2 b3
          rw [Int.toNat_natCast] at b3
          have d1 : decide ((nn : Int) < 0) = false := decide_eq_false (by omega)
          have d2 : decide ((nn : Int) ≥ (f0.tx.flight.length : Int)) = false := decide_eq_false (by omega)
          obtain ⟨csf, hef, hrf⟩ := Els.one1 hP5.e0.fl
          have hy4 := Zc.trans' hyz hy3
          obtain ⟨cf, ⟨vf, rfl, hbf⟩, hrx2⟩ := (hef.mono hy4).at (hrf.mono hy4) b3
          have hatf := hef.isAt hrf (by decide) (show nn < f0.tx.flight.length by omega)
          simp only [hnn]
          repeat (simp only [seval, go_sem, d1, d2]; refine gO ?_)
          (refine ⟨⟨by omega, by omega, hatf⟩, ?_⟩; (try simp only [seval, go_sem]))
          refine ldF.agg _ rfl (by first | exact .inl hrx2 | exact hrx2) ?_
          refine gO ?_
          refine tT ?_; refine callP (lipart ⟨f.seg, f.len, f.data⟩ (.slice A9 f.data.length k9) vf y3 hw9 hbf (by show f.data.length ≤ 100; omega)) rfl rfl ?_; rintro _ _ - ⟨rfl, rfl⟩; refine gO ?_
          refine gO ?_
          refine ⟨⟨j + 1, y3⟩, ⟨Zc.trans' hy2 hy3, by dsimp only; omega⟩, by dsimp only; omega, ?_⟩
          exact lX
         ·have q2 : (f.seq != f1.rx.expect) = true := by simp [hs]
          repeat (simp only [seval, go_sem, q1, q2]; refine gO ?_)
          refine ⟨⟨j + 1, y3⟩, ⟨Zc.trans' hy2 hy3, by dsimp only; omega⟩, by dsimp only; omega, ?_⟩
          exact lX
        ·have q1 : (f.kind != 1) = true := by simp [hk1]
         repeat (simp only [seval, go_sem, q1]; refine gO ?_)
         refine ⟨⟨j + 1, y3⟩, ⟨Zc.trans' hy2 hy3, by dsimp only; omega⟩, by dsimp only; omega, ?_⟩
         exact lX
      ·refine gO ?_
       refine ⟨⟨2, y2⟩, ⟨hyz, by dsimp only; omega⟩, by dsimp only; omega, ?_⟩
       exact lX
    ·refine gO ?_
     refine ⟨⟨i + 1, f0, f1, g0, g1, lk, m5, y⟩, ⟨Zc.trans' hz3 (Zc.trans' hz4 hy), by dsimp only; omega, hP5.mono hy, hI5⟩, by dsimp only; omega, ?_⟩
     exact lX
  ·refine gO ?_
   refine tT ?_; refine callP (wldok_i c link e0 e1 n0 n1 m z3 hP hI.ok) rfl rfl ?_; rintro u z5 hz5 rfl; refine gO ?_
   refine gO ?_
   refine tT ?_; refine callP (liok z5) rfl rfl ?_; rintro _ _ - ⟨rfl, rfl⟩; refine gO ?_
   (first|refine fN ?_|exact fZ)
end Go.Proofs.YtnkhjnieidlknaaGreat
