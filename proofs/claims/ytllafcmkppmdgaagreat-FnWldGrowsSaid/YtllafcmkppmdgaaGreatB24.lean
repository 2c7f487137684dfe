/- What the laws compare: beginnings, pieces; how far numbers are apart, by the program. -/
import Derived.Test.YtllafcmkppmdgaaGreatB13
import Derived.Test.YtllafcmkppmdgaaGreatB12
import Derived.Test.YtllafcmkppmdgaaGreatB23
namespace Go.Proofs.YtllafcmkppmdgaaGreat
open Go.RowKit
set_option linter.unusedVariables false
set_option linter.unusedSimpArgs false
set_option maxRecDepth 100000
set_option maxHeartbeats 1000000
theorem lifirst (l h : List (List Int)) (v u : Value) (z : Zc) (hv : Sl sduRep z l v) (hu : Sl sduRep z h u) (h1 : l.length ≤ 1000) (h2 : h.length ≤ 1000) (hm : ∀ x ∈ l, x.length ≤ 1000) (hk : ∀ x ∈ h, x.length ≤ 1000) (hp : l.take h.length = h) : PSpec Tryz.prog 21 [v, u] z fun w z' => w = .bool true ∧ z = z' := by
 have hle : h.length ≤ l.length := by have := congrArg List.length hp; rw [List.length_take] at this; omega
 obtain ⟨A, c, cs, rfl, hc, he, hr⟩ := hv
 obtain ⟨A2, c2, cs2, rfl, hc2, he2, hr2⟩ := hu
 have hsl : Sl sduRep z (l.take h.length) (.slice A h.length c) := by
  have := Sl.take (d := sduRep) (z := z) (xs := l) (A := A) (n := l.length) (c := c) ⟨_, _, _, rfl, hc, he, hr⟩ (k := h.length) (c' := c) hle (by omega)
  exact this
 have d1 : decide ((l.length : Int) ≥ (h.length : Int)) = true := decide_eq_true (by omega)
 have hcl := lisdus (l.take h.length) h _ _ z hsl ⟨_, _, _, rfl, hc2, he2, hr2⟩ (by rw [hp]; omega) (by omega) (fun x hx => by have := hm x (List.mem_of_mem_take hx); omega) (fun x hx => by have := hk x hx; omega)
 rw [hp] at hcl
 refine eP k21 ?_
 refine gO ?_
 repeat (simp only [seval, go_sem, d1]; refine gO ?_)
 refine ⟨by omega, ?_⟩; refine gO ?_
 refine tT ?_; refine callP (hcl) rfl rfl ?_; rintro _ _ - ⟨rfl, rfl⟩; refine gO ?_
 try simp only [seval, go_sem, decide_true]
 (first|refine fN ?_|exact fZ)
end Go.Proofs.YtllafcmkppmdgaaGreat
