/- Whether somebody is at its end, by the program. · Numbers: what the laws' walks share. -/
import Derived.Test.YtnkhjnieidlknaaGreatB22
namespace Go.Proofs.YtnkhjnieidlknaaGreat
open Go.RowKit
set_option linter.unusedVariables false
set_option linter.unusedSimpArgs false
set_option maxRecDepth 100000
set_option maxHeartbeats 4000000
abbrev endV (e : End) (m : EndM) : Value := .agg #[.int .i64 e.tx.next, .int .i64 e.tx.acked, .slice m.fA e.tx.flight.length m.fC, .int .i64 e.tx.sent, .slice m.qA e.tx.queue.length m.qC, .bool e.tx.asks, .int .i64 e.tx.tries, .bool e.tx.held, .int .i64 e.tx.count, .bool e.tx.dead,
 .int .i64 e.rx.expect, .int .i64 e.rx.count, .int .i64 e.rx.join.len, .slice m.jA e.rx.join.got.length m.jC, .bool e.rx.again, .bool e.rx.busy, .bool e.rx.dead,
 .int .i64 e.ctx.hav, .slice m.cA e.ctx.queue.length m.cC, .int .i64 e.ctx.granted, .int .i64 e.ctx.sent, .bool e.ctx.dead,
 .int .i64 e.crx.out, .int .i64 e.crx.join.len, .slice m.kA e.crx.join.got.length m.kC, .bool e.crx.dead, .slice m.pA e.put.length m.pC, .slice m.gA e.got.length m.gC]
theorem wdead1 (e : End) (m : EndM) (z : Zc) : PSpec Tryz.prog 44 ([endV e m] ++ []) z fun u z' => u = .bool (endDead e) ∧ z = z' := by
 unfold endDead
 (refine pspec_enter Tryz.func44 ic44_ok fr44_ok Tryz.ntmps44 ?_; simp only [seval, go_sem, ic44, fr44])
 refine gO ?_
 cases h1 : e.tx.dead <;> cases h2 : e.rx.dead <;> cases h3 : e.ctx.dead <;> cases h4 : e.crx.dead
 all_goals (repeat (simp only [seval, go_sem, h1, h2, h3, h4]; refine gO ?_))
 all_goals (first|refine fN ?_|exact fZ)
 all_goals exact ⟨rfl, trivial⟩
theorem windex {e0 e1 : End} {n0 n1 : List Msg} {m : WM} {z : Zc} (hP : WldP z e0 e1 n0 n1 m) {fn : FuncId} (hok : callOk Tryz.prog fn = true) (hf : ∀ e m z, PSpec Tryz.prog fn ([endV e m] ++ []) z fun u z' => u = .bool (endDead e) ∧ z = z') :
  PSpec Tryz.prog 68 [.slice m.E 2 m.EC, .func (.func fn) #[] #[]] z fun v z' => (∃ i : Int, v = .int .i64 i ∧ decide (0 ≤ i) = (endDead e0 || endDead e1)) ∧ z = z' := by
 have hE : IsAt m.E := hP.E.isAt (by rw [endsC_len]; omega)
 (refine pspec_enter Tryz.func68 ic68_ok fr68_ok Tryz.ntmps68 ?_; simp only [seval, go_sem, ic68, fr68])
 refine gO ?_
 refine loopV.rounds 3 ?_
 rw [roundsV_succ]
 try simp only [show IntKind.i64.wrap 1 = 1 from rfl]
 refine gO ?_
 ((first | refine ⟨⟨by omega, hE⟩, ?_⟩ | refine ⟨hE, ?_⟩); (try simp only [seval, go_sem]))
 refine ldF.agg (sz := 28) _ rfl (by exact .inl (hP.E.sub 0 _ (fun i u hu => ends_get0 hu))) ?_
 simp only [seval, go_sem, endC]
 refine gO ?_
 ((try with_reducible refine othM.toT ?_); refine oth_call rfl hok rfl rfl (hf e0 m.m0 z) ?_; rintro _ _ - ⟨rfl, rfl⟩; refine gO ?_)
 cases h0 : endDead e0 with
 | true =>
  try simp only [seval, go_sem, h0]
  refine gO ?_
  simp only [seval, go_sem, roundK_ret]
  (first|refine fN ?_|exact fZ)
  simp_all
 | false =>
 try simp only [seval, go_sem, h0]
 refine gO ?_
 simp only [seval, go_sem, roundK_normal]
 rw [roundsV_succ]
 try simp only [show IntKind.i64.wrap 1 = 1 from rfl]
 refine gO ?_
 ((first | refine ⟨⟨by omega, hE⟩, ?_⟩ | refine ⟨hE, ?_⟩); (try simp only [seval, go_sem]))
 refine ldF.agg (sz := 28) _ rfl (by exact .inl (hP.E.sub 28 _ (fun i u hu => ends_get1 hu))) ?_
 simp only [seval, go_sem, endC]
 refine gO ?_
 ((try with_reducible refine othM.toT ?_); refine oth_call rfl hok rfl rfl (hf e1 m.m1 z) ?_; rintro _ _ - ⟨rfl, rfl⟩; refine gO ?_)
 cases h1 : endDead e1 with
 | true =>
  try simp only [seval, go_sem, h1]
  refine gO ?_
  simp only [seval, go_sem, roundK_ret]
  (first|refine fN ?_|exact fZ)
  simp_all
 | false =>
 try simp only [seval, go_sem, h1]
 refine gO ?_
 simp only [seval, go_sem, roundK_normal]
 rw [roundsV_succ]
 try simp only [show IntKind.i64.wrap 2 = 2 from rfl]
 refine gO ?_
 simp only [seval, go_sem, roundK_exit]
 (first|refine fN ?_|exact fZ)
 simp
theorem wlddead_i (c : Cfg) (link : Int) (e0 e1 : End) (n0 n1 : List Msg) (m : WM) (z : Zc) (hP : WldP z e0 e1 n0 n1 m) : PSpec Tryz.prog 19 [wldV c link m] z fun u z' => u = .bool (endDead e0 || endDead e1) ∧ z = z' := by
 have hco : PSpec Tryz.prog 43 [.slice m.E 2 m.EC, .func (.func 44) #[] #[]] z fun v z' => v = .bool (endDead e0 || endDead e1) ∧ z = z' := by
  (refine pspec_enter Tryz.func43 ic43_ok fr43_ok Tryz.ntmps43 ?_; simp only [seval, go_sem, ic43, fr43])
  refine gO ?_
  refine tT ?_; refine callP (windex hP (by kernel_rfl) wdead1) rfl rfl ?_; rintro _ _ - ⟨⟨i, rfl, hi⟩, rfl⟩; refine gO ?_
  (first|refine fN ?_|exact fZ)
  simp [← hi]
 (refine pspec_enter Tryz.func19 ic19_ok fr19_ok Tryz.ntmps19 ?_; simp only [seval, go_sem, ic19, fr19])
 refine gO ?_
 refine tT ?_; refine callP (hco) rfl rfl ?_; rintro _ _ - ⟨rfl, rfl⟩; refine gO ?_
 (first|refine fN ?_|exact fZ)
set_option maxHeartbeats 8000000
theorem NumI.stepOk {w : Wld} (h : NumI w) {ev : Evt} (he : EvD ev ∧ ev.kind ≤ 10) : QN w ev := by
 refine ⟨?_, h.mode, he.2⟩
 refine ⟨⟨he.1.1.1, by omega⟩, he.1.2.1, he.1.2.2, fun i hi m hm f hf => ⟨fun _ => ((h.msg i hi m hm).read hf).2.2.1, fun h2 => ?_⟩⟩
 have := h.mode
 omega
structure LawI (z0 : Zc) (c : Cfg) (n : Nat) (s : RunS) : Prop where
 z : z0 ≤ s.z
 i : s.i ≤ n
 P : WldP s.z s.e0 s.e1 s.n0 s.n1 s.m
 I : NumI ⟨c, [s.e0, s.e1], [s.n0, s.n1], s.link⟩
theorem WldP.atE {z : Zc} {e0 e1 : End} {n0 n1 : List Msg} {m : WM} (h : WldP z e0 e1 n0 n1 m) : IsAt m.E := h.E.isAt (by rw [endsC_len]; omega)
theorem WldP.atN {z : Zc} {e0 e1 : End} {n0 n1 : List Msg} {m : WM} (h : WldP z e0 e1 n0 n1 m) : IsAt m.N := h.N.isAt (by simp)
theorem WldP.tx0 {z : Zc} {e0 e1 : End} {n0 n1 : List Msg} {m : WM} (h : WldP z e0 e1 n0 n1 m) : RdAt z m.E 0 (txL e0 m.m0) := by
 have := h.E.sub 0 (txL e0 m.m0) (fun i u hu => ends_sub (l1 := (endsC e0 e1 m.m0 m.m1).take 0) (l3 := (endsC e0 e1 m.m0 m.m1).drop (0 + 10)) rfl rfl hu)
 exact this
theorem WldP.tx1 {z : Zc} {e0 e1 : End} {n0 n1 : List Msg} {m : WM} (h : WldP z e0 e1 n0 n1 m) : RdAt z m.E 28 (txL e1 m.m1) := by
 have := h.E.sub 28 (txL e1 m.m1) (fun i u hu => ends_sub (l1 := (endsC e0 e1 m.m0 m.m1).take 28) (l3 := (endsC e0 e1 m.m0 m.m1).drop (28 + 10)) rfl rfl hu)
 exact this
theorem WldP.rx0 {z : Zc} {e0 e1 : End} {n0 n1 : List Msg} {m : WM} (h : WldP z e0 e1 n0 n1 m) : RdAt z m.E 10 (rxL e0 m.m0) := by
 have := h.E.sub 10 (rxL e0 m.m0) (fun i u hu => ends_sub (l1 := (endsC e0 e1 m.m0 m.m1).take 10) (l3 := (endsC e0 e1 m.m0 m.m1).drop (10 + 7)) rfl rfl hu)
 exact this
theorem WldP.rx1 {z : Zc} {e0 e1 : End} {n0 n1 : List Msg} {m : WM} (h : WldP z e0 e1 n0 n1 m) : RdAt z m.E 38 (rxL e1 m.m1) := by
 have := h.E.sub 38 (rxL e1 m.m1) (fun i u hu => ends_sub (l1 := (endsC e0 e1 m.m0 m.m1).take 38) (l3 := (endsC e0 e1 m.m0 m.m1).drop (38 + 7)) rfl rfl hu)
 exact this
end Go.Proofs.YtnkhjnieidlknaaGreat
