/- Who sends without credit is cut off: the law's walk. -/
import Derived.Test.YtpblmlaahapohaaGreatD19
import Derived.Test.YtpblmlaahapohaaGreatD18
import Derived.Test.YtpblmlaahapohaaGreatD6
import Derived.Test.YtpblmlaahapohaaGreatD4
namespace Go.Proofs.YtpblmlaahapohaaGreat
open Go.RowKit
set_option linter.unusedVariables false
set_option linter.unusedSimpArgs false
set_option maxRecDepth 100000
set_option maxHeartbeats 8000000
theorem eM_kind (c : Cfg) (hm : c.mode = 2) (b : Int) : KindI c [eM b] := fun m h f hf => by
  rw [List.mem_singleton.1 h] at hf
  have := eF_read b
  change frmRead (frmBytes (eF b)) = some f at hf
  rw [this] at hf
  injection hf with hf
  subst hf
  exact ⟨fun h => by omega, fun _ => .inl rfl⟩
theorem eG_kind (c : Cfg) (hm : c.mode = 2) : KindI c [⟨false, frmBytes eG⟩] := fun m h f hf => by
  rw [List.mem_singleton.1 h] at hf
  change frmRead (frmBytes eG) = some f at hf
  rw [frmRead_bytes eG_ok] at hf
  injection hf with hf
  subst hf
  exact ⟨fun h => by omega, fun _ => .inr rfl⟩
theorem e0_kind (c : Cfg) : KindI c [] := fun m h => by cases h
theorem qd_of {c : Cfg} {e : End} {n0 n1 : List Msg} {ev : Evt} (hm : c.mode = 2) (h0 : KindI c n0) (h1 : KindI c n1) (hk : ev.kind = 6 ∨ ev.kind = 7 ∨ ev.kind = 11) (hw : ev.who = 1) (hd : ev.data.length ≤ 100) : QD ⟨c, [end0, e], [n0, n1], 0⟩ ev :=
  ⟨⟨by omega, .inr hw, hd, fun i hi => by
    rcases two_cases hi with rfl | rfl
    · exact h0
    · exact h1⟩, hm, hw, by omega⟩
theorem frmBytesF (f : Frm) (v : Value) (z : Zc) (h : By z f.data v) (hl : f.data.length ≤ 100000) : PSpec Tryz.prog 12 [vFrm f v] z fun v z' => ∃ A k, v = .slice A (frmBytes f).length k ∧ By z' (frmBytes f) (.slice A (frmBytes f).length k) :=
  (frmBytes_i f v z h hl).mono fun v z' _ hb => by
    obtain ⟨A, k, rfl, _, _, _⟩ := hb.form
    exact ⟨A, k, rfl, hb⟩
theorem crdEnd_law (code : List Int) (v : Value) (z : Zc) (h : By z code v) : PSpec Tryz.prog 3 [v] z fun u z' => u = .bool true := by
  obtain ⟨A0, c0, rfl, hc0, hB0, hr0⟩ := h.form
  (refine pspec_enter Tryz.func3 ic3_ok fr3_ok Tryz.ntmps3 ?_; simp only [seval, go_sem, ic3, fr3])
  refine gO ?_
  (with_reducible refine condI.split (fun hg => ?_) (fun hg => ?_) <;> (try simp only [hg]) <;> (try simp only [seval, go_sem]))
  · (first|refine fN ?_|exact fZ)
  have hlen : code.length ≤ 1048576 := by have := of_decide_eq_false hg; omega
  refine gO ?_
  refine tT ?_; refine callP (drawCredit_s code _ z h (by omega)) rfl rfl ?_; rintro u z1 hz1 ⟨c, evs, B, kB, rfl, hE, hc, hm, hev, hel⟩; refine gO ?_
  refine tT ?_; refine callP (wldnew_i c z1 hc) rfl rfl ?_; rintro u z2 hz2 ⟨e0, e1, n0, n1, m, link, hw0, rfl, hP⟩; refine gO ?_; (try simp only [seval, go_sem])
  have hW0 := wldNew_I hc
  have e : wldNew c = ⟨c, [end0, end0], [[], []], 0⟩ := by unfold wldNew; rw [if_pos (cfgOk_iff.mpr hc)]
  rw [e] at hw0 hW0
  injection hw0 with _ h1 h2 h3
  injection h1 with h1 h4
  injection h4 with h4 _
  injection h2 with h2 h5
  injection h5 with h5 _
  subst h1; subst h4; subst h2; subst h5; subst h3
  refine gO ?_
  generalize hb9 : IntKind.u8.wrap (code.length : Int) = b
  have hb : 0 ≤ b ∧ b ≤ 255 := by rw [← hb9, IntKind.wrap_u8]; omega
  have hBy1 : Bys [b] := fun x hx => by rw [List.mem_singleton.1 hx]; exact hb
  have hf8 := eF_len b
  have hW1 : WldI ⟨c, [end0, end0], [[], [eM b]], 0⟩ := by rw [← end_in]; exact step_I hW0 _
  have hWG : WldI ⟨c, [end0, e1G], [[⟨false, frmBytes eG⟩], []], 0⟩ := by rw [← end_grant c hm]; exact step_I hW0 _
  have hWH : WldI ⟨c, [end0, e1G], [[⟨false, frmBytes eG⟩], [eM b]], 0⟩ := by rw [← end_in]; exact step_I hWG _
  have q1 := qd_of (e := end0) (ev := ⟨11, 1, 0, 0, frmBytes (eF b)⟩) hm (e0_kind c) (e0_kind c) (.inr (.inr rfl)) rfl (by show (frmBytes (eF b)).length ≤ 100; omega)
  have q2 := qd_of (e := end0) (ev := ⟨7, 1, 0, 0, []⟩) hm (e0_kind c) (eM_kind c hm b) (.inr (.inl rfl)) rfl (by simp)
  have q3 := qd_of (e := end0) (ev := ⟨6, 1, 0, 0, []⟩) hm (e0_kind c) (e0_kind c) (.inl rfl) rfl (by simp)
  have q4 := qd_of (e := e1G) (ev := ⟨11, 1, 0, 0, frmBytes (eF b)⟩) hm (eG_kind c hm) (e0_kind c) (.inr (.inr rfl)) rfl (by show (frmBytes (eF b)).length ≤ 100; omega)
  have q5 := qd_of (e := e1G) (ev := ⟨7, 1, 0, 0, []⟩) hm (eG_kind c hm) (eM_kind c hm b) (.inr (.inl rfl)) rfl (by simp)
  refine joinV.le (ι := RunS) (fun s => z2 ≤ s.z ∧ RdAt s.z (some ⟨s.i, 0, none⟩) 0 (bc [b]) ∧ WldP s.z end0 end0 [] [eM b] s.m) [7, 23, 24, 25, 26, 27, 28, 29] (fun _ => [(7, .c (.p 4 0))])
    (fun s => [(0, .cells 24 (c5 c)), (1, .cells tyW (wldE c 0 m)), (3, .cells 34 [.v (.int .i64 3), .v (.int .i64 0), .v (.int .i64 0), .v (.bool false), .v (.bool false), .v (.int .i64 0), .v (.int .i64 0), .v (.int .i64 1), .v (.slice (some ⟨s.i, 0, none⟩) 1 1)]), (4, .cells tyW (wldE c 0 s.m))]) (fun s => s.z) 5 (by simp only [anyL, st]; exact rfl) ?_ ?_
  · simp only [seval, go_sem]
    repeat' (refine And.intro ?_ ?_ <;> (try simp only [seval, go_sem]))
    all_goals (first | refine callT.frz 2 rfl rfl (fun b1 z3 hz3 hr3 => ?_) | refine callM.frz 2 rfl rfl (fun b1 z3 hz3 hr3 => ?_)); dsimp only at hz3; simp only [seval, go_sem, Go.Proofs.YtpblmlaahapohaaGreat.frz, subV, subC, subE, subL]
    all_goals (have hby : By z3 [b] (.slice (some ⟨b1, 0, none⟩) 1 1) := By.mk (Nat.le_refl _) hBy1 hr3)
    all_goals refine tT ?_; refine callP (frmBytesF (eF b) _ z3 hby (by simp [eF])) rfl rfl ?_; rintro v4 z4 hz4 ⟨Af, kf, rfl, hby4⟩; refine gO ?_
    all_goals have hz24 := Zc.trans' hz3 hz4
    repeat' (refine And.intro ?_ ?_ <;> (try simp only [seval, go_sem]))
    all_goals refine tT ?_; refine callP (wldstep_i QD stepP_D c 0 end0 end0 [] [] m ⟨11, 1, 0, 0, frmBytes (eF b)⟩ _ z4 (hP.mono hz24) hW0 hby4 q1) rfl rfl ?_; rintro u z5 hz5 ⟨f0, f1, g0, g1, m5, lk, hw, rfl, hP5⟩; refine gO ?_
    all_goals rw [end_in] at hw
    all_goals injection hw with _ h1 h2 h3
    all_goals injection h1 with h1 h4
    all_goals injection h4 with h4 _
    all_goals injection h2 with h2 h5
    all_goals injection h5 with h5 _
    all_goals subst h1; subst h4; subst h2; subst h5; subst h3
    all_goals refine ⟨⟨b1, end0, end0, [], [], 0, m5, z5⟩, ⟨Zc.trans' hz24 hz5, hr3.mono (Zc.trans' hz4 hz5), hP5⟩, ?_⟩
    all_goals simp only [wldE]
    all_goals exact lX
  · rintro ⟨b1, _, _, _, _, _, mx, z3⟩ ⟨hz3, hrb, hPx⟩
    dsimp only at *
    simp only [wldE]
    refine gO ?_
    refine tT ?_; refine callP (wldstep_i QD stepP_D c 0 end0 end0 [] [eM b] mx ⟨7, 1, 0, 0, []⟩ (.slice none 0 0) z3 hPx hW1 (Sl.nil _ _ _) q2) rfl rfl ?_; rintro u z4 hz4 ⟨f0, f1, g0, g1, my, lk, hw, rfl, hPy⟩; refine gO ?_; (try simp only [seval, go_sem])
    rw [end_cut c hm] at hw
    injection hw with _ h1 h2 h3
    injection h1 with h1 h4
    injection h4 with h4 _
    injection h2 with h2 h5
    injection h5 with h5 _
    subst h1; subst h4; subst h2; subst h5; subst h3
    refine gO ?_
    have hP4 := hP.mono (Zc.trans' hz3 hz4)
    have hPx4 := hPx.mono hz4
    have hrb4 := hrb.mono hz4
    refine joinV.le (ι := RunS) (fun s => z4 ≤ s.z ∧ WldP s.z end0 e1G [⟨false, frmBytes eG⟩] [eM b] s.m) [9, 33, 34, 35, 36, 37, 38, 39] (fun _ => [(9, .c (.p 6 0))])
      (fun s => [(0, .cells 24 (c5 c)), (4, .cells tyW (wldE c 0 mx)), (5, .cells tyW (wldE c 0 my)), (6, .cells tyW (wldE c 0 s.m))]) (fun s => s.z) 7 (by simp only [anyL, st]; exact rfl) ?_ ?_
    · simp only [seval, go_sem]
      repeat' (refine And.intro ?_ ?_ <;> (try simp only [seval, go_sem]))
      all_goals refine tT ?_; refine callP (wldstep_i QD stepP_D c 0 end0 end0 [] [] m ⟨6, 1, 0, 0, []⟩ (.slice none 0 0) z4 hP4 hW0 (Sl.nil _ _ _) q3) rfl rfl ?_; rintro u z5 hz5 ⟨f0, f1, g0, g1, mg, lk, hw, rfl, hPg⟩; refine gO ?_
      all_goals rw [end_grant c hm] at hw
      all_goals injection hw with _ h1 h2 h3
      all_goals injection h1 with h1 h4
      all_goals injection h4 with h4 _
      all_goals injection h2 with h2 h5
      all_goals injection h5 with h5 _
      all_goals subst h1; subst h4; subst h2; subst h5; subst h3
      repeat' (refine And.intro ?_ ?_ <;> (try simp only [seval, go_sem]))
      all_goals (have hby : By z5 [b] (.slice (some ⟨b1, 0, none⟩) 1 1) := By.mk (Nat.le_refl _) hBy1 (hrb4.mono hz5))
      all_goals refine tT ?_; refine callP (frmBytesF (eF b) _ z5 hby (by simp [eF])) rfl rfl ?_; rintro v6 z6 hz6 ⟨Af, kf, rfl, hby4⟩; refine gO ?_
      repeat' (refine And.intro ?_ ?_ <;> (try simp only [seval, go_sem]))
      all_goals refine tT ?_; refine callP (wldstep_i QD stepP_D c 0 end0 e1G [⟨false, frmBytes eG⟩] [] mg ⟨11, 1, 0, 0, frmBytes (eF b)⟩ _ z6 (hPg.mono hz6) hWG hby4 q4) rfl rfl ?_; rintro u z7 hz7 ⟨f0, f1, g0, g1, mh, lk, hw, rfl, hPh⟩; refine gO ?_
      all_goals rw [end_in] at hw
      all_goals injection hw with _ h1 h2 h3
      all_goals injection h1 with h1 h4
      all_goals injection h4 with h4 _
      all_goals injection h2 with h2 h5
      all_goals injection h5 with h5 _
      all_goals subst h1; subst h4; subst h2; subst h5; subst h3
      all_goals refine ⟨⟨0, end0, end0, [], [], 0, mh, z7⟩, ⟨Zc.trans' hz5 (Zc.trans' hz6 hz7), hPh⟩, ?_⟩
      all_goals simp only [wldE]
      all_goals exact lX
    · rintro ⟨_, _, _, _, _, _, mh, z5⟩ ⟨hz5, hPh⟩
      dsimp only at *
      simp only [wldE]
      refine gO ?_
      refine tT ?_; refine callP (wldstep_i QD stepP_D c 0 end0 e1G [⟨false, frmBytes eG⟩] [eM b] mh ⟨7, 1, 0, 0, []⟩ (.slice none 0 0) z5 hPh hWH (Sl.nil _ _ _) q5) rfl rfl ?_; rintro u z6 hz6 ⟨f0, f1, g0, g1, mz, lk, hw, rfl, hPz⟩; refine gO ?_; (try simp only [seval, go_sem])
      rw [end_come c hc hm] at hw
      injection hw with _ h1 h2 h3
      injection h1 with h1 h4
      injection h4 with h4 _
      injection h2 with h2 h5
      injection h5 with h5 _
      subst h1; subst h4; subst h2; subst h5; subst h3
      refine gO ?_
      have hx6 := hPx4.mono (Zc.trans' hz5 hz6)
      have hy6 := hPy.mono (Zc.trans' hz5 hz6)
      ((first | refine ⟨⟨by omega, hx6.atN'⟩, ?_⟩ | refine ⟨hx6.atN', ?_⟩); (try simp only [seval, go_sem]))
      (refine ldF.one _ (by first | exact .inl (hx6.N.cell 1 rfl) | exact (hx6.N.cell 1 rfl)) ?_; (try simp only [seval, go_sem]))
      ((first | refine ⟨⟨by omega, hy6.atE'⟩, ?_⟩ | refine ⟨hy6.atE', ?_⟩); (try simp only [seval, go_sem]))
      (refine ldF.one _ (by first | exact .inl (show RdAt _ _ 53 [.bool true] from hy6.E.cell 53 rfl) | exact (show RdAt _ _ 53 [.bool true] from hy6.E.cell 53 rfl)) ?_; (try simp only [seval, go_sem]))
      refine gO ?_
      ((first | refine ⟨⟨by omega, hy6.atE'⟩, ?_⟩ | refine ⟨hy6.atE', ?_⟩); (try simp only [seval, go_sem]))
      (refine ldF.one _ (by first | exact .inl (show RdAt _ _ 55 [.slice my.m1.gA 0 my.m1.gC] from hy6.E.cell 55 rfl) | exact (show RdAt _ _ 55 [.slice my.m1.gA 0 my.m1.gC] from hy6.E.cell 55 rfl)) ?_; (try simp only [seval, go_sem]))
      refine gO ?_
      refine tT ?_; refine callP (wlddead_i c 0 end0 e1D [] [] my z6 hy6) rfl rfl ?_; rintro _ _ - ⟨rfl, rfl⟩; refine gO ?_
      simp only [seval, go_sem, show (endDead end0 || endDead e1D) = true from rfl]
      refine gO ?_
      ((first | refine ⟨⟨by omega, hPz.atE'⟩, ?_⟩ | refine ⟨hPz.atE', ?_⟩); (try simp only [seval, go_sem]))
      (refine ldF.one _ (by first | exact .inl (show RdAt _ _ 55 [.slice mz.m1.gA 1 mz.m1.gC] from hPz.E.cell 55 rfl) | exact (show RdAt _ _ 55 [.slice mz.m1.gA 1 mz.m1.gC] from hPz.E.cell 55 rfl)) ?_; (try simp only [seval, go_sem]))
      refine gO ?_
      refine tT ?_; refine callP (wlddead_i c 0 end0 (e1Z b) [⟨false, frmBytes eG⟩] [] mz z6 hPz) rfl rfl ?_; rintro _ _ - ⟨rfl, rfl⟩; refine gO ?_
      simp only [seval, go_sem, show (endDead end0 || endDead (e1Z b)) = false from rfl]
      (first|refine fN ?_|exact fZ)
end Go.Proofs.YtpblmlaahapohaaGreat
