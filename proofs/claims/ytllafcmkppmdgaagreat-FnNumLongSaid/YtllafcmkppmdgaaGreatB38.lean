/- No message is longer than both agreed: the law's walk. -/
import Derived.Test.YtllafcmkppmdgaaGreatB22
import Derived.Test.YtllafcmkppmdgaaGreatB37
import Derived.Test.YtllafcmkppmdgaaGreatB27
namespace Go.Proofs.YtllafcmkppmdgaaGreat
open Go.RowKit
set_option linter.unusedVariables false
set_option linter.unusedSimpArgs false
set_option maxRecDepth 100000
set_option maxHeartbeats 8000000
theorem numLong_law (code : List Int) (v : Value) (z : Zc) (h : By z code v) : PSpec Tryz.prog 6 [v] z fun u z' => u = .bool true := by
 obtain ⟨A0, c0, rfl, hc0, hB0, hr0⟩ := h.form
 refine eP k6 ?_
 refine gO ?_
 (with_reducible refine condI.split (fun hg => ?_) (fun hg => ?_) <;> (try simp only [hg]) <;> (try simp only [seval, go_sem]))
 ·(first|refine fN ?_|exact fZ)
 have hlen : code.length ≤ 1048576 := by have := of_decide_eq_false hg; omega
 refine gO ?_
 refine tT ?_; refine callP (drawWild_s code _ z h (by omega)) rfl rfl ?_; rintro u z1 hz1 ⟨c, evs, B, kB, rfl, hE, hc, hev, hel⟩; refine gO ?_
 refine tT ?_; refine callP (liplay_i QW stepP_W c evs B kB z1 hc hE (by omega) (fun i ev hx => hev ev (List.mem_of_getElem? hx))) rfl rfl ?_; rintro u z2 hz2 ⟨e0, e1, n0, n1, m, link, hw, rfl, hP⟩; refine gO ?_
 have hI := run_W (g := false) (wldNew_W hc) evs
 rw [hw] at hI
 refine tT ?_; refine callP (wldok_i c link e0 e1 n0 n1 m z2 hP hI.ok) rfl rfl ?_; rintro u z3 hz3 rfl; refine gO ?_
 have hP3 := hP.mono hz3
 refine gO ?_
 refine loop_upd (ι := Nat × Zc) (n := 2) (fun s => z3 ≤ s.2 ∧ s.1 ≤ 2) (fun s => [(6, .c (.v (.int .i64 s.1)))]) (fun _ => [(0, .cells 24 (c5 c)), (1, .cells tyW (wldE c link m))]) (fun s => s.2) (fun s => 2 - s.1) ⟨0, z3⟩ ⟨Zc.rfl' _, by simp⟩ (by (simp only [wrI, wrR, anyL, st, List.append_nil, List.nil_append, List.cons_append]); exact rfl) ?_ ?_
 ·simp only [wldE]
  exact lX
 ·rintro ⟨k, y⟩ ⟨hy, hk⟩
  dsimp only at *
  simp only [wldE]
  have hPy := hP3.mono hy
  have hk3 : k = 0 ∨ k = 1 ∨ k = 2 := by omega
  rcases hk3 with rfl | rfl | rfl
  ·refine gO ?_
   have hp60 : e0.put.length ≤ 60 := (hI.ok.ends 0 (by omega)).put.1
   have hg60 : e0.got.length ≤ 60 := (hI.ok.ends 0 (by omega)).got.1
   refine loop_upd (ι := Nat) (n := 2) (fun i => i ≤ e0.put.length) (fun i => [(7, .c (.v (.int .i64 i)))]) (fun _ => [(0, .cells 24 (c5 c)), (1, .cells tyW (wldE c link m))]) (fun _ => y) (fun i => e0.put.length - i) 0 (by omega) (by (simp only [wrI, wrR, anyL, st, List.append_nil, List.nil_append, List.cons_append]); exact rfl) ?_ ?_
   ·simp only [wldE]
    exact lX
   ·intro i hi
    simp only [wldE]
    refine gO ?_
    ((first | refine ⟨⟨by omega, hPy.atE⟩, ?_⟩ | refine ⟨hPy.atE, ?_⟩); (try simp only [seval, go_sem]))
    (refine ldF.one _ (by first | exact .inl (hPy.E.cell 26 rfl) | exact (hPy.E.cell 26 rfl)) ?_; (try simp only [seval, go_sem]))
    refine gO ?_
    (with_reducible refine condI.split (fun hg => ?_) (fun hg => ?_) <;> (try simp only [hg]) <;> (try simp only [seval, go_sem]))
    ·have hi' : i < e0.put.length := by have := of_decide_eq_true hg; omega
     obtain ⟨x, hx⟩ : ∃ x, e0.put[i]? = some x := ⟨_, List.getElem?_eq_getElem hi'⟩
     obtain ⟨csx, hex, hrx⟩ := Els.one1 hPy.e0.pu
     obtain ⟨c1, ⟨v, rfl, hb⟩, hr1⟩ := hex.at hrx hx
     have hat := hex.isAt hrx (by decide) hi'
     have hm : (x.length : Int) ≤ c.mtu := (hI.ends 0 (by omega)).put x (List.mem_of_getElem? hx)
     have d1 : decide ((x.length : Int) > c.mtu) = false := decide_eq_false (by omega)
     obtain ⟨A1, k1, rfl, _, _, _⟩ := By.form hb
     refine gO ?_
     ((first | refine ⟨⟨by omega, hPy.atE⟩, ?_⟩ | refine ⟨hPy.atE, ?_⟩); (try simp only [seval, go_sem]))
     (refine ldF.one _ (by first | exact .inl (hPy.E.cell 26 rfl) | exact (hPy.E.cell 26 rfl)) ?_; (try simp only [seval, go_sem]))
     (refine ⟨⟨by omega, by omega, hat⟩, ?_⟩; (try simp only [seval, go_sem]))
     (refine ldF.one _ (by first | exact .inl hr1 | exact hr1) ?_; (try simp only [seval, go_sem]))
     repeat (simp only [seval, go_sem, d1]; refine gO ?_)
     refine ⟨i + 1, by omega, by omega, ?_⟩
     exact lX
    ·refine gO ?_
     refine loop_upd (ι := Nat) (n := 2) (fun i => i ≤ e0.got.length) (fun i => [(8, .c (.v (.int .i64 i)))]) (fun _ => [(0, .cells 24 (c5 c)), (1, .cells tyW (wldE c link m))]) (fun _ => y) (fun i => e0.got.length - i) 0 (by omega) (by (simp only [wrI, wrR, anyL, st, List.append_nil, List.nil_append, List.cons_append]); exact rfl) ?_ ?_
     ·simp only [wldE]
      exact lX
     ·intro i hi
      simp only [wldE]
      refine gO ?_
      ((first | refine ⟨⟨by omega, hPy.atE⟩, ?_⟩ | refine ⟨hPy.atE, ?_⟩); (try simp only [seval, go_sem]))
      (refine ldF.one _ (by first | exact .inl (hPy.E.cell 27 rfl) | exact (hPy.E.cell 27 rfl)) ?_; (try simp only [seval, go_sem]))
      refine gO ?_
      (with_reducible refine condI.split (fun hg => ?_) (fun hg => ?_) <;> (try simp only [hg]) <;> (try simp only [seval, go_sem]))
      ·have hi' : i < e0.got.length := by have := of_decide_eq_true hg; omega
       obtain ⟨x, hx⟩ : ∃ x, e0.got[i]? = some x := ⟨_, List.getElem?_eq_getElem hi'⟩
       obtain ⟨csx, hex, hrx⟩ := Els.one1 hPy.e0.go
       obtain ⟨c1, ⟨v, rfl, hb⟩, hr1⟩ := hex.at hrx hx
       have hat := hex.isAt hrx (by decide) hi'
       have hm : (x.length : Int) ≤ c.mtu := (hI.ends 0 (by omega)).got x (List.mem_of_getElem? hx)
       have d1 : decide ((x.length : Int) > c.mtu) = false := decide_eq_false (by omega)
       obtain ⟨A1, k1, rfl, _, _, _⟩ := By.form hb
       refine gO ?_
       ((first | refine ⟨⟨by omega, hPy.atE⟩, ?_⟩ | refine ⟨hPy.atE, ?_⟩); (try simp only [seval, go_sem]))
       (refine ldF.one _ (by first | exact .inl (hPy.E.cell 27 rfl) | exact (hPy.E.cell 27 rfl)) ?_; (try simp only [seval, go_sem]))
       (refine ⟨⟨by omega, by omega, hat⟩, ?_⟩; (try simp only [seval, go_sem]))
       (refine ldF.one _ (by first | exact .inl hr1 | exact hr1) ?_; (try simp only [seval, go_sem]))
       repeat (simp only [seval, go_sem, d1]; refine gO ?_)
       refine ⟨i + 1, by omega, by omega, ?_⟩
       exact lX
      ·refine gO ?_
       refine ⟨⟨1, y⟩, ⟨hy, by dsimp only; omega⟩, by dsimp only; omega, ?_⟩
       exact lX
  ·refine gO ?_
   have hp60 : e1.put.length ≤ 60 := (hI.ok.ends 1 (by omega)).put.1
   have hg60 : e1.got.length ≤ 60 := (hI.ok.ends 1 (by omega)).got.1
   refine loop_upd (ι := Nat) (n := 2) (fun i => i ≤ e1.put.length) (fun i => [(7, .c (.v (.int .i64 i)))]) (fun _ => [(0, .cells 24 (c5 c)), (1, .cells tyW (wldE c link m))]) (fun _ => y) (fun i => e1.put.length - i) 0 (by omega) (by (simp only [wrI, wrR, anyL, st, List.append_nil, List.nil_append, List.cons_append]); exact rfl) ?_ ?_
   ·simp only [wldE]
    exact lX
   ·intro i hi
    simp only [wldE]
    refine gO ?_
    ((first | refine ⟨⟨by omega, hPy.atE⟩, ?_⟩ | refine ⟨hPy.atE, ?_⟩); (try simp only [seval, go_sem]))
    (refine ldF.one _ (by first | exact .inl (hPy.E.cell 54 rfl) | exact (hPy.E.cell 54 rfl)) ?_; (try simp only [seval, go_sem]))
    refine gO ?_
    (with_reducible refine condI.split (fun hg => ?_) (fun hg => ?_) <;> (try simp only [hg]) <;> (try simp only [seval, go_sem]))
    ·have hi' : i < e1.put.length := by have := of_decide_eq_true hg; omega
     obtain ⟨x, hx⟩ : ∃ x, e1.put[i]? = some x := ⟨_, List.getElem?_eq_getElem hi'⟩
     obtain ⟨csx, hex, hrx⟩ := Els.one1 hPy.e1.pu
     obtain ⟨c1, ⟨v, rfl, hb⟩, hr1⟩ := hex.at hrx hx
     have hat := hex.isAt hrx (by decide) hi'
     have hm : (x.length : Int) ≤ c.mtu := (hI.ends 1 (by omega)).put x (List.mem_of_getElem? hx)
     have d1 : decide ((x.length : Int) > c.mtu) = false := decide_eq_false (by omega)
     obtain ⟨A1, k1, rfl, _, _, _⟩ := By.form hb
     refine gO ?_
     ((first | refine ⟨⟨by omega, hPy.atE⟩, ?_⟩ | refine ⟨hPy.atE, ?_⟩); (try simp only [seval, go_sem]))
     (refine ldF.one _ (by first | exact .inl (hPy.E.cell 54 rfl) | exact (hPy.E.cell 54 rfl)) ?_; (try simp only [seval, go_sem]))
     (refine ⟨⟨by omega, by omega, hat⟩, ?_⟩; (try simp only [seval, go_sem]))
     (refine ldF.one _ (by first | exact .inl hr1 | exact hr1) ?_; (try simp only [seval, go_sem]))
     repeat (simp only [seval, go_sem, d1]; refine gO ?_)
     refine ⟨i + 1, by omega, by omega, ?_⟩
     exact lX
    ·refine gO ?_
     refine loop_upd (ι := Nat) (n := 2) (fun i => i ≤ e1.got.length) (fun i => [(8, .c (.v (.int .i64 i)))]) (fun _ => [(0, .cells 24 (c5 c)), (1, .cells tyW (wldE c link m))]) (fun _ => y) (fun i => e1.got.length - i) 0 (by omega) (by (simp only [wrI, wrR, anyL, st, List.append_nil, List.nil_append, List.cons_append]); exact rfl) ?_ ?_
     ·simp only [wldE]
      exact lX
     ·intro i hi
      simp only [wldE]
      refine gO ?_
      ((first | refine ⟨⟨by omega, hPy.atE⟩, ?_⟩ | refine ⟨hPy.atE, ?_⟩); (try simp only [seval, go_sem]))
      (refine ldF.one _ (by first | exact .inl (hPy.E.cell 55 rfl) | exact (hPy.E.cell 55 rfl)) ?_; (try simp only [seval, go_sem]))
      refine gO ?_
      (with_reducible refine condI.split (fun hg => ?_) (fun hg => ?_) <;> (try simp only [hg]) <;> (try simp only [seval, go_sem]))
      ·have hi' : i < e1.got.length := by have := of_decide_eq_true hg; omega
       obtain ⟨x, hx⟩ : ∃ x, e1.got[i]? = some x := ⟨_, List.getElem?_eq_getElem hi'⟩
       obtain ⟨csx, hex, hrx⟩ := Els.one1 hPy.e1.go
       obtain ⟨c1, ⟨v, rfl, hb⟩, hr1⟩ := hex.at hrx hx
       have hat := hex.isAt hrx (by decide) hi'
       have hm : (x.length : Int) ≤ c.mtu := (hI.ends 1 (by omega)).got x (List.mem_of_getElem? hx)
       have d1 : decide ((x.length : Int) > c.mtu) = false := decide_eq_false (by omega)
       obtain ⟨A1, k1, rfl, _, _, _⟩ := By.form hb
       refine gO ?_
       ((first | refine ⟨⟨by omega, hPy.atE⟩, ?_⟩ | refine ⟨hPy.atE, ?_⟩); (try simp only [seval, go_sem]))
       (refine ldF.one _ (by first | exact .inl (hPy.E.cell 55 rfl) | exact (hPy.E.cell 55 rfl)) ?_; (try simp only [seval, go_sem]))
       (refine ⟨⟨by omega, by omega, hat⟩, ?_⟩; (try simp only [seval, go_sem]))
       (refine ldF.one _ (by first | exact .inl hr1 | exact hr1) ?_; (try simp only [seval, go_sem]))
       repeat (simp only [seval, go_sem, d1]; refine gO ?_)
       refine ⟨i + 1, by omega, by omega, ?_⟩
       exact lX
      ·refine gO ?_
       refine ⟨⟨2, y⟩, ⟨hy, by dsimp only; omega⟩, by dsimp only; omega, ?_⟩
       exact lX
  ·refine gO ?_
   refine tT ?_; refine callP (liok y) rfl rfl ?_; rintro _ _ - ⟨rfl, rfl⟩; refine gO ?_
   (first|refine fN ?_|exact fZ)
end Go.Proofs.YtllafcmkppmdgaaGreat
