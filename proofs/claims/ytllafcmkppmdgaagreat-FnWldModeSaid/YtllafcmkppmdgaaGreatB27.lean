/- What all that is drawn leads to. -/
import Derived.Test.YtllafcmkppmdgaaGreatB22
import Derived.Test.YtllafcmkppmdgaaGreatB25
namespace Go.Proofs.YtllafcmkppmdgaaGreat
open Go.RowKit
set_option linter.unusedVariables false
set_option linter.unusedSimpArgs false
set_option maxRecDepth 100000
set_option maxHeartbeats 4000000
theorem liplay_i (Q : Wld → Evt → Prop) (hQ : StepP Q) (c : Cfg) (evs : List Evt) (A : Option Addr) (k : Nat) (z : Zc) (hc : CfgI c) (hE : Sl eRep z evs (.slice A evs.length k)) (hl : evs.length ≤ 400) (hS : ∀ i ev, evs[i]? = some ev → Q (run false (wldNew c) (evs.take i)) ev) : PSpec Tryz.prog 20 [vCfg c, .slice A evs.length k] z (WldF c (run false (wldNew c) evs)) := by
 have hI := wldNew_I hc
 refine eP k20 ?_
 refine gO ?_
 refine tT ?_; refine callP (wldnew_i c z hc) rfl rfl ?_; rintro u z2 hz2 ⟨e0, e1, n0, n1, m, link, hw0, rfl, hP⟩; refine gO ?_
 rw [hw0] at hI hS ⊢
 refine tT ?_; refine callP (wldrun_i Q hQ c link e0 e1 n0 n1 m evs A k z2 hP hI (hE.mono hz2) hl hS) rfl rfl ?_; rintro u z3 hz3 ⟨f0, f1, g0, g1, m3, lk, hw, rfl, hP3⟩; refine gO ?_
 (first|refine fN ?_|exact fZ)
 exact ⟨f0, f1, g0, g1, m3, lk, hw, rfl, hP3⟩
theorem wld_inj {c d : Cfg} {e0 e1 f0 f1 : End} {n0 n1 g0 g1 : List Msg} {k l : Int} (h : (⟨c, [e0, e1], [n0, n1], k⟩ : Wld) = ⟨d, [f0, f1], [g0, g1], l⟩) : e0 = f0 ∧ e1 = f1 ∧ n0 = g0 ∧ n1 = g1 ∧ k = l := by
 injection h with _ h1 h2 h3
 injection h1 with h1 h4
 injection h4 with h4 _
 injection h2 with h2 h5
 injection h5 with h5 _
 exact ⟨h1, h4, h2, h5, h3⟩
end Go.Proofs.YtllafcmkppmdgaaGreat
