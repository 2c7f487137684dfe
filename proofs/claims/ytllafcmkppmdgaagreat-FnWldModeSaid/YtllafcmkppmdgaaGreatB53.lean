/- Who uses the one does not use the other: the law's walk. -/
import Derived.Test.YtllafcmkppmdgaaGreatB22
import Derived.Test.YtllafcmkppmdgaaGreatB52
import Derived.Test.YtllafcmkppmdgaaGreatB26
import Derived.Test.YtllafcmkppmdgaaGreatB27
namespace Go.Proofs.YtllafcmkppmdgaaGreat
open Go.RowKit
set_option linter.unusedVariables false
set_option linter.unusedSimpArgs false
set_option maxRecDepth 100000
set_option maxHeartbeats 8000000
theorem wldMode_law (code : List Int) (v : Value) (z : Zc) (h : By z code v) : PSpec Tryz.prog 9 [v] z fun u z' => u = .bool true := by
 obtain ⟨A0, c0, rfl, hc0, hB0, hr0⟩ := h.form
 refine eP k9 ?_
 refine gO ?_
 (with_reducible refine condI.split (fun hg => ?_) (fun hg => ?_) <;> (try simp only [hg]) <;> (try simp only [seval, go_sem]))
 ·(first|refine fN ?_|exact fZ)
 have hlen : code.length ≤ 1048576 := by have := of_decide_eq_false hg; omega
 refine gO ?_
 refine tT ?_; refine callP (drawWild_s code _ z h (by omega)) rfl rfl ?_; rintro u z1 hz1 ⟨c, evs, B, kB, rfl, hE, hc, hev, hel⟩; refine gO ?_
 refine tT ?_; refine callP (liplay_i QW stepP_W c evs B kB z1 hc hE (by omega) (fun i ev hx => hev ev (List.mem_of_getElem? hx))) rfl rfl ?_; rintro u z2 hz2 ⟨e0, e1, n0, n1, m, link, hw, rfl, hP⟩; refine gO ?_
 have hI := run_W (g := false) (wldNew_W hc) evs
 rw [hw] at hI
 refine tT ?_; refine callP (wldok_i c link e0 e1 n0 n1 m z2 hP hI.ok) rfl rfl ?_; rintro u z3 hz3 rfl; refine gO ?_
 have hP3 := hP.mono hz3
 have q0 := hI.ends 0 (by omega)
 have q1 := hI.ends 1 (by omega)
 have r0 : EndI c e0 := hI.ok.ends 0 (by omega)
 have r1 : EndI c e1 := hI.ok.ends 1 (by omega)
 obtain ⟨mode, win, mps, mtu, tri⟩ := c
 have hmode : mode = 1 ∨ mode = 2 := hc.mode
 obtain ⟨tx0', rx0', ctx0', crx0', put0', got0'⟩ := e0
 obtain ⟨tx1', rx1', ctx1', crx1', put1', got1'⟩ := e1
 change EndW _ ⟨tx0', rx0', ctx0', crx0', put0', got0'⟩ at q0
 change EndW _ ⟨tx1', rx1', ctx1', crx1', put1', got1'⟩ at q1
 rcases hmode with rfl | rfl
 ·obtain ⟨p0, p1⟩ := q0.m1 rfl
  obtain ⟨p2, p3⟩ := q1.m1 rfl
  dsimp only at p0 p1 p2 p3
  subst p0 p1 p2 p3
  refine gO ?_
  refine loop_upd (ι := Nat × Zc) (n := 2) (fun s => z3 ≤ s.2 ∧ s.1 ≤ 2) (fun s => [(6, .c (.v (.int .i64 s.1)))]) (fun _ => [(0, .cells 24 (c5 ⟨1, win, mps, mtu, tri⟩)), (1, .cells tyW (wldE ⟨1, win, mps, mtu, tri⟩ link m))]) (fun s => s.2) (fun s => 2 - s.1) ⟨0, z3⟩ ⟨Zc.rfl' _, by simp⟩ (by (simp only [wrI, wrR, anyL, st, List.append_nil, List.nil_append, List.cons_append]); exact rfl) ?_ ?_
  ·simp only [wldE]
   exact lX
  ·rintro ⟨k, y⟩ ⟨hy, hk⟩
   dsimp only at *
   simp only [wldE]
   have hPy := hP3.mono hy
   have hk3 : k = 0 ∨ k = 1 ∨ k = 2 := by omega
   rcases hk3 with rfl | rfl | rfl
   ·refine gO ?_
    ((first | refine ⟨⟨by omega, hPy.atE⟩, ?_⟩ | refine ⟨hPy.atE, ?_⟩); (try simp only [seval, go_sem]))
    (refine ldF.agg _ rfl (by first | exact .inl hPy.all0 | exact hPy.all0) ?_; (try simp only [seval, go_sem]))
    refine gO ?_
    refine tT ?_; refine callP (lictx ctx0 _ (.slice none 0 0) y hPy.e0.cq (Sl.nil _ _ _) (by simp [ctx0]) (by simp [ctx0])) rfl rfl ?_; rintro _ _ - ⟨rfl, rfl⟩; refine gO ?_
    refine tT ?_; refine callP (licrx crx0 _ (.slice none 0 0) y hPy.e0.kj (Sl.nil _ _ _) (by simp [crx0, join0])) rfl rfl ?_; rintro _ _ - ⟨rfl, rfl⟩; refine gO ?_
    refine gO ?_
    refine ⟨⟨1, y⟩, ⟨hy, by dsimp only; omega⟩, by dsimp only; omega, ?_⟩
    exact lX
   ·refine gO ?_
    ((first | refine ⟨⟨by omega, hPy.atE⟩, ?_⟩ | refine ⟨hPy.atE, ?_⟩); (try simp only [seval, go_sem]))
    (refine ldF.agg _ rfl (by first | exact .inl hPy.all1 | exact hPy.all1) ?_; (try simp only [seval, go_sem]))
    refine gO ?_
    refine tT ?_; refine callP (lictx ctx0 _ (.slice none 0 0) y hPy.e1.cq (Sl.nil _ _ _) (by simp [ctx0]) (by simp [ctx0])) rfl rfl ?_; rintro _ _ - ⟨rfl, rfl⟩; refine gO ?_
    refine tT ?_; refine callP (licrx crx0 _ (.slice none 0 0) y hPy.e1.kj (Sl.nil _ _ _) (by simp [crx0, join0])) rfl rfl ?_; rintro _ _ - ⟨rfl, rfl⟩; refine gO ?_
    refine gO ?_
    refine ⟨⟨2, y⟩, ⟨hy, by dsimp only; omega⟩, by dsimp only; omega, ?_⟩
    exact lX
   ·refine gO ?_
    refine tT ?_; refine callP (liok y) rfl rfl ?_; rintro _ _ - ⟨rfl, rfl⟩; refine gO ?_
    (first|refine fN ?_|exact fZ)
 ·obtain ⟨p0, p1⟩ := q0.m2 (by simp)
  obtain ⟨p2, p3⟩ := q1.m2 (by simp)
  dsimp only at p0 p1 p2 p3
  subst p0 p1 p2 p3
  refine gO ?_
  refine loop_upd (ι := Nat × Zc) (n := 2) (fun s => z3 ≤ s.2 ∧ s.1 ≤ 2) (fun s => [(6, .c (.v (.int .i64 s.1)))]) (fun _ => [(0, .cells 24 (c5 ⟨2, win, mps, mtu, tri⟩)), (1, .cells tyW (wldE ⟨2, win, mps, mtu, tri⟩ link m))]) (fun s => s.2) (fun s => 2 - s.1) ⟨0, z3⟩ ⟨Zc.rfl' _, by simp⟩ (by (simp only [wrI, wrR, anyL, st, List.append_nil, List.nil_append, List.cons_append]); exact rfl) ?_ ?_
  ·simp only [wldE]
   exact lX
  ·rintro ⟨k, y⟩ ⟨hy, hk⟩
   dsimp only at *
   simp only [wldE]
   have hPy := hP3.mono hy
   have hk3 : k = 0 ∨ k = 1 ∨ k = 2 := by omega
   rcases hk3 with rfl | rfl | rfl
   ·refine gO ?_
    ((first | refine ⟨⟨by omega, hPy.atE⟩, ?_⟩ | refine ⟨hPy.atE, ?_⟩); (try simp only [seval, go_sem]))
    (refine ldF.agg _ rfl (by first | exact .inl hPy.all0 | exact hPy.all0) ?_; (try simp only [seval, go_sem]))
    refine gO ?_
    refine tT ?_; refine callP (litx tx0 _ _ (.slice none 0 0) (.slice none 0 0) y hPy.e0.fl hPy.e0.qu (Sl.nil _ _ _) (Sl.nil _ _ _) (by simp [tx0]) (by simp [tx0]) (by simp [tx0]) (by simp [tx0])) rfl rfl ?_; rintro _ _ - ⟨rfl, rfl⟩; refine gO ?_
    refine tT ?_; refine callP (lirx rx0 _ (.slice none 0 0) y hPy.e0.jo (Sl.nil _ _ _) (by simp [rx0, join0])) rfl rfl ?_; rintro _ _ - ⟨rfl, rfl⟩; refine gO ?_
    refine gO ?_
    refine ⟨⟨1, y⟩, ⟨hy, by dsimp only; omega⟩, by dsimp only; omega, ?_⟩
    exact lX
   ·refine gO ?_
    ((first | refine ⟨⟨by omega, hPy.atE⟩, ?_⟩ | refine ⟨hPy.atE, ?_⟩); (try simp only [seval, go_sem]))
    (refine ldF.agg _ rfl (by first | exact .inl hPy.all1 | exact hPy.all1) ?_; (try simp only [seval, go_sem]))
    refine gO ?_
    refine tT ?_; refine callP (litx tx0 _ _ (.slice none 0 0) (.slice none 0 0) y hPy.e1.fl hPy.e1.qu (Sl.nil _ _ _) (Sl.nil _ _ _) (by simp [tx0]) (by simp [tx0]) (by simp [tx0]) (by simp [tx0])) rfl rfl ?_; rintro _ _ - ⟨rfl, rfl⟩; refine gO ?_
    refine tT ?_; refine callP (lirx rx0 _ (.slice none 0 0) y hPy.e1.jo (Sl.nil _ _ _) (by simp [rx0, join0])) rfl rfl ?_; rintro _ _ - ⟨rfl, rfl⟩; refine gO ?_
    refine gO ?_
    refine ⟨⟨2, y⟩, ⟨hy, by dsimp only; omega⟩, by dsimp only; omega, ?_⟩
    exact lX
   ·refine gO ?_
    refine tT ?_; refine callP (liok y) rfl rfl ?_; rintro _ _ - ⟨rfl, rfl⟩; refine gO ?_
    (first|refine fN ?_|exact fZ)
end Go.Proofs.YtllafcmkppmdgaaGreat
