/- What the small functions do: clones, ranges, numbers, what is ok. · Codes of functions, group List. · What the functions that go through lists do. -/
import Derived.Test.YtpjaidjnamngaaaGreatR6
import Derived.Test.YtpjaidjnamngaaaGreatR5
import Derived.Test.YtpjaidjnamngaaaGreatR4
import Derived.Test.YtpjaidjnamngaaaGreatR3
import Derived.Test.YtpjaidjnamngaaaGreatProg
namespace Go.Proofs.YtpjaidjnamngaaaGreat
open Go.RowKit
set_option linter.unusedVariables false
set_option linter.unusedSimpArgs false
set_option maxRecDepth 100000
set_option maxHeartbeats 1000000
theorem wrap_in {n : Int} (h0 : -9223372036854775808 ≤ n) (h1 : n ≤ 9223372036854775807) : IntKind.i64.wrap n = n := by rw [IntKind.wrap_i64]; omega
theorem atyB : AppTy Tryz.prog 22 5 1 := AppTy.of (by kernel_rfl)
theorem scloneB (A : Option Addr) (n c : Nat) (cs : List Value) (z : Zc) (hr : RdAt z A 0 cs) (hl : cs.length = n * 1) (h1 : ∀ u ∈ cs, u.oneCell' = true) (hb : n ≤ 1000000000) :
    PSpec Tryz.prog 67 [.slice A n c] z fun v z' => ∃ A' c', v = .slice A' n c' ∧ n ≤ c' ∧ RdAt z' A' 0 cs := by
  (refine pspec_enter Tryz.func67 ic67_ok fr67_ok Tryz.ntmps67 ?_; simp only [seval, go_sem, ic67, fr67])
  ((try simp only [seval, go_sem]);repeat((with_reducible first|refine vJ ?_|refine vK ?_);try simp only [seval, go_sem]))
  refine condI.split (fun h => ?_) (fun h => ?_)
  · ((try simp only [seval, go_sem]);repeat((with_reducible first|refine vJ ?_|refine vK ?_);try simp only [seval, go_sem]))
    (((try simp only [seval, go_sem]);repeat((with_reducible first|refine vJ ?_|refine vK ?_);try simp only [seval, go_sem])); with_reducible refine FinV.of ?_; simp only [finE, finS, gt, look, SV.toV, SC.toV, allV, tupV, zq1, zq2, zq3, zq4, Nat.reduceAdd, Nat.reduceEqDiff, reduceCtorEq, if_true, if_false, reduceIte, Nat.succ_ne_self, true_and, zq5, zq7, zq8])
    have hn : cs = [] := by
      cases A with
      | none => rcases cs with _ | ⟨u, cs⟩
                · rfl
                · obtain ⟨b, o, e, _⟩ := hr (by simp); cases e
      | some a => simp at h
    subst hn
    have : n = 0 := by simp at hl; omega
    subst this
    exact ⟨_, 0, rfl, Nat.le_refl _, RdAt.nil _ _ _⟩
  · ((try simp only [seval, go_sem]);repeat((with_reducible first|refine vJ ?_|refine vK ?_);try simp only [seval, go_sem]))
    refine appM.toT (appM_empty 99 atyB rfl (.inr ⟨0, 0, rfl⟩) rfl hr hl h1 hb fun A' c' z' hz hc' hr' => ?_)
    simp only [seval, go_sem]
    ((try simp only [seval, go_sem]);repeat((with_reducible first|refine vJ ?_|refine vK ?_);try simp only [seval, go_sem]))
    (((try simp only [seval, go_sem]);repeat((with_reducible first|refine vJ ?_|refine vK ?_);try simp only [seval, go_sem])); with_reducible refine FinV.of ?_; simp only [finE, finS, gt, look, SV.toV, SC.toV, allV, tupV, zq1, zq2, zq3, zq4, Nat.reduceAdd, Nat.reduceEqDiff, reduceCtorEq, if_true, if_false, reduceIte, Nat.succ_ne_self, true_and, zq5, zq7, zq8])
    exact ⟨A', c', rfl, hc', hr'⟩
theorem sclipB (A : Option Addr) (n c : Nat) (z : Zc) (hc : n ≤ c) (hb : n ≤ 1000000000) : PSpec Tryz.prog 66 [.slice A n c] z fun v z' => v = .slice A n n := by
  (refine pspec_enter Tryz.func66 ic66_ok fr66_ok Tryz.ntmps66 ?_; simp only [seval, go_sem, ic66, fr66])
  ((try simp only [seval, go_sem]);repeat((with_reducible first|refine vJ ?_|refine vK ?_);try simp only [seval, go_sem]))
  refine ⟨by omega, ?_⟩
  ((try simp only [seval, go_sem]);repeat((with_reducible first|refine vJ ?_|refine vK ?_);try simp only [seval, go_sem]))
  (((try simp only [seval, go_sem]);repeat((with_reducible first|refine vJ ?_|refine vK ?_);try simp only [seval, go_sem])); with_reducible refine FinV.of ?_; simp only [finE, finS, gt, look, SV.toV, SC.toV, allV, tupV, zq1, zq2, zq3, zq4, Nat.reduceAdd, Nat.reduceEqDiff, reduceCtorEq, if_true, if_false, reduceIte, Nat.succ_ne_self, true_and, zq5, zq7, zq8])
theorem cloneB (A : Option Addr) (n c : Nat) (cs : List Value) (z : Zc) (hr : RdAt z A 0 cs) (hl : cs.length = n * 1) (h1 : ∀ u ∈ cs, u.oneCell' = true) (hb : n ≤ 1000000000) :
    PSpec Tryz.prog 37 [.slice A n c] z fun v z' => ∃ A', v = .slice A' n n ∧ RdAt z' A' 0 cs := by
  (refine pspec_enter Tryz.func37 ic37_ok fr37_ok Tryz.ntmps37 ?_; simp only [seval, go_sem, ic37, fr37])
  ((try simp only [seval, go_sem]);repeat((with_reducible first|refine vJ ?_|refine vK ?_);try simp only [seval, go_sem]))
  (try with_reducible refine callM.toT ?_); refine callP (scloneB A n c cs z hr hl h1 hb) rfl rfl ?_; rintro v z1 hz1 ⟨A1, c1, rfl, hc1, hr1⟩; ((try simp only [seval, go_sem]);repeat((with_reducible first|refine vJ ?_|refine vK ?_);try simp only [seval, go_sem]))
  (try with_reducible refine callM.toT ?_); refine callP (sclipB A1 n c1 z1 hc1 hb) rfl rfl ?_; rintro v z2 hz2 rfl; ((try simp only [seval, go_sem]);repeat((with_reducible first|refine vJ ?_|refine vK ?_);try simp only [seval, go_sem]))
  (((try simp only [seval, go_sem]);repeat((with_reducible first|refine vJ ?_|refine vK ?_);try simp only [seval, go_sem])); with_reducible refine FinV.of ?_; simp only [finE, finS, gt, look, SV.toV, SC.toV, allV, tupV, zq1, zq2, zq3, zq4, Nat.reduceAdd, Nat.reduceEqDiff, reduceCtorEq, if_true, if_false, reduceIte, Nat.succ_ne_self, true_and, zq5, zq7, zq8])
  exact ⟨A1, rfl, hr1.mono hz2⟩
theorem atyP : AppTy Tryz.prog 28 88 3 := AppTy.of (by kernel_rfl)
theorem scloneP (A : Option Addr) (n c : Nat) (cs : List Value) (z : Zc) (hr : RdAt z A 0 cs) (hl : cs.length = n * 3) (h1 : ∀ u ∈ cs, u.oneCell' = true) (hb : n ≤ 1000000000) :
    PSpec Tryz.prog 65 [.slice A n c] z fun v z' => ∃ A' c', v = .slice A' n c' ∧ n ≤ c' ∧ RdAt z' A' 0 cs := by
  (refine pspec_enter Tryz.func65 ic65_ok fr65_ok Tryz.ntmps65 ?_; simp only [seval, go_sem, ic65, fr65])
  ((try simp only [seval, go_sem]);repeat((with_reducible first|refine vJ ?_|refine vK ?_);try simp only [seval, go_sem]))
  refine condI.split (fun h => ?_) (fun h => ?_)
  · ((try simp only [seval, go_sem]);repeat((with_reducible first|refine vJ ?_|refine vK ?_);try simp only [seval, go_sem]))
    (((try simp only [seval, go_sem]);repeat((with_reducible first|refine vJ ?_|refine vK ?_);try simp only [seval, go_sem])); with_reducible refine FinV.of ?_; simp only [finE, finS, gt, look, SV.toV, SC.toV, allV, tupV, zq1, zq2, zq3, zq4, Nat.reduceAdd, Nat.reduceEqDiff, reduceCtorEq, if_true, if_false, reduceIte, Nat.succ_ne_self, true_and, zq5, zq7, zq8])
    have hn : cs = [] := by
      cases A with
      | none => rcases cs with _ | ⟨u, cs⟩
                · rfl
                · obtain ⟨b, o, e, _⟩ := hr (by simp); cases e
      | some a => simp at h
    subst hn
    have : n = 0 := by simp at hl; omega
    subst this
    exact ⟨_, 0, rfl, Nat.le_refl _, RdAt.nil _ _ _⟩
  · ((try simp only [seval, go_sem]);repeat((with_reducible first|refine vJ ?_|refine vK ?_);try simp only [seval, go_sem]))
    refine appM.toT (appM_empty 99 atyP rfl (.inr ⟨0, 0, rfl⟩) rfl hr hl h1 hb fun A' c' z' hz hc' hr' => ?_)
    simp only [seval, go_sem]
    ((try simp only [seval, go_sem]);repeat((with_reducible first|refine vJ ?_|refine vK ?_);try simp only [seval, go_sem]))
    (((try simp only [seval, go_sem]);repeat((with_reducible first|refine vJ ?_|refine vK ?_);try simp only [seval, go_sem])); with_reducible refine FinV.of ?_; simp only [finE, finS, gt, look, SV.toV, SC.toV, allV, tupV, zq1, zq2, zq3, zq4, Nat.reduceAdd, Nat.reduceEqDiff, reduceCtorEq, if_true, if_false, reduceIte, Nat.succ_ne_self, true_and, zq5, zq7, zq8])
    exact ⟨A', c', rfl, hc', hr'⟩
theorem sclipP (A : Option Addr) (n c : Nat) (z : Zc) (hc : n ≤ c) (hb : n ≤ 1000000000) : PSpec Tryz.prog 64 [.slice A n c] z fun v z' => v = .slice A n n := by
  (refine pspec_enter Tryz.func64 ic64_ok fr64_ok Tryz.ntmps64 ?_; simp only [seval, go_sem, ic64, fr64])
  ((try simp only [seval, go_sem]);repeat((with_reducible first|refine vJ ?_|refine vK ?_);try simp only [seval, go_sem]))
  refine ⟨by omega, ?_⟩
  ((try simp only [seval, go_sem]);repeat((with_reducible first|refine vJ ?_|refine vK ?_);try simp only [seval, go_sem]))
  (((try simp only [seval, go_sem]);repeat((with_reducible first|refine vJ ?_|refine vK ?_);try simp only [seval, go_sem])); with_reducible refine FinV.of ?_; simp only [finE, finS, gt, look, SV.toV, SC.toV, allV, tupV, zq1, zq2, zq3, zq4, Nat.reduceAdd, Nat.reduceEqDiff, reduceCtorEq, if_true, if_false, reduceIte, Nat.succ_ne_self, true_and, zq5, zq7, zq8])
theorem cloneP (A : Option Addr) (n c : Nat) (cs : List Value) (z : Zc) (hr : RdAt z A 0 cs) (hl : cs.length = n * 3) (h1 : ∀ u ∈ cs, u.oneCell' = true) (hb : n ≤ 1000000000) :
    PSpec Tryz.prog 34 [.slice A n c] z fun v z' => ∃ A', v = .slice A' n n ∧ RdAt z' A' 0 cs := by
  (refine pspec_enter Tryz.func34 ic34_ok fr34_ok Tryz.ntmps34 ?_; simp only [seval, go_sem, ic34, fr34])
  ((try simp only [seval, go_sem]);repeat((with_reducible first|refine vJ ?_|refine vK ?_);try simp only [seval, go_sem]))
  (try with_reducible refine callM.toT ?_); refine callP (scloneP A n c cs z hr hl h1 hb) rfl rfl ?_; rintro v z1 hz1 ⟨A1, c1, rfl, hc1, hr1⟩; ((try simp only [seval, go_sem]);repeat((with_reducible first|refine vJ ?_|refine vK ?_);try simp only [seval, go_sem]))
  (try with_reducible refine callM.toT ?_); refine callP (sclipP A1 n c1 z1 hc1 hb) rfl rfl ?_; rintro v z2 hz2 rfl; ((try simp only [seval, go_sem]);repeat((with_reducible first|refine vJ ?_|refine vK ?_);try simp only [seval, go_sem]))
  (((try simp only [seval, go_sem]);repeat((with_reducible first|refine vJ ?_|refine vK ?_);try simp only [seval, go_sem])); with_reducible refine FinV.of ?_; simp only [finE, finS, gt, look, SV.toV, SC.toV, allV, tupV, zq1, zq2, zq3, zq4, Nat.reduceAdd, Nat.reduceEqDiff, reduceCtorEq, if_true, if_false, reduceIte, Nat.succ_ne_self, true_and, zq5, zq7, zq8])
  exact ⟨A1, rfl, hr1.mono hz2⟩
theorem cloneBy (l : List Int) (v : Value) (z : Zc) (h : By z l v) (hb : l.length ≤ 1000000000) : PSpec Tryz.prog 37 [v] z fun v' z' => ∃ A', v' = .slice A' l.length l.length ∧ Bys l ∧ RdAt z' A' 0 (bc l) := by
  obtain ⟨A, c, rfl, hc, hB, hr⟩ := h.form
  exact (cloneB A l.length c (bc l) z hr (by simp) (by intro u hu; obtain ⟨x, _, rfl⟩ := List.mem_map.1 hu; rfl) hb).mono fun v' z' hz ⟨A', h1, h2⟩ => ⟨A', h1, hB, h2⟩
theorem in_i (n lo hi : Int) (z : Zc) : PSpec Tryz.prog 36 [.int .i64 n, .int .i64 lo, .int .i64 hi] z fun v z' => v = .bool (inB n lo hi) ∧ z = z' := by
  (refine pspec_enter Tryz.func36 ic36_ok fr36_ok Tryz.ntmps36 ?_; simp only [seval, go_sem, ic36, fr36])
  ((try simp only [seval, go_sem]);repeat((with_reducible first|refine vJ ?_|refine vK ?_);try simp only [seval, go_sem]))
  (with_reducible refine guardR.split (fun hg => ?_) (fun hg => ?_) <;> (try simp only [hg]) <;> simp only [seval, go_sem]) <;> (((try simp only [seval, go_sem]);repeat((with_reducible first|refine vJ ?_|refine vK ?_);try simp only [seval, go_sem])); (((try simp only [seval, go_sem]);repeat((with_reducible first|refine vJ ?_|refine vK ?_);try simp only [seval, go_sem])); with_reducible refine FinV.of ?_; simp only [finE, finS, gt, look, SV.toV, SC.toV, allV, tupV, zq1, zq2, zq3, zq4, Nat.reduceAdd, Nat.reduceEqDiff, reduceCtorEq, if_true, if_false, reduceIte, Nat.succ_ne_self, true_and, zq5, zq7, zq8])) <;> simp only [and_true] <;> simp at hg <;> simp [inB, hg]
  omega
theorem in_s (n lo hi : Int) (z : Zc) : PSpec Tryz.prog 85 [.int .i64 n, .int .i64 lo, .int .i64 hi] z fun v z' => v = .bool (inB n lo hi) ∧ z = z' := by
  (refine pspec_enter Tryz.func85 ic85_ok fr85_ok Tryz.ntmps85 ?_; simp only [seval, go_sem, ic85, fr85])
  ((try simp only [seval, go_sem]);repeat((with_reducible first|refine vJ ?_|refine vK ?_);try simp only [seval, go_sem]))
  (with_reducible refine guardR.split (fun hg => ?_) (fun hg => ?_) <;> (try simp only [hg]) <;> simp only [seval, go_sem]) <;> (((try simp only [seval, go_sem]);repeat((with_reducible first|refine vJ ?_|refine vK ?_);try simp only [seval, go_sem])); (((try simp only [seval, go_sem]);repeat((with_reducible first|refine vJ ?_|refine vK ?_);try simp only [seval, go_sem])); with_reducible refine FinV.of ?_; simp only [finE, finS, gt, look, SV.toV, SC.toV, allV, tupV, zq1, zq2, zq3, zq4, Nat.reduceAdd, Nat.reduceEqDiff, reduceCtorEq, if_true, if_false, reduceIte, Nat.succ_ne_self, true_and, zq5, zq7, zq8])) <;> simp only [and_true] <;> simp at hg <;> simp [inB, hg]
  omega
theorem isnum (n : Int) (z : Zc) : PSpec Tryz.prog 45 [.int .i64 n] z fun v z' => v = .bool (isNum n) ∧ z = z' := by
  (refine pspec_enter Tryz.func45 ic45_ok fr45_ok Tryz.ntmps45 ?_; simp only [seval, go_sem, ic45, fr45])
  ((try simp only [seval, go_sem]);repeat((with_reducible first|refine vJ ?_|refine vK ?_);try simp only [seval, go_sem]))
  (try with_reducible refine callM.toT ?_); refine callP (in_i n 0 7 z) rfl rfl ?_; rintro _ _ - ⟨rfl, rfl⟩; ((try simp only [seval, go_sem]);repeat((with_reducible first|refine vJ ?_|refine vK ?_);try simp only [seval, go_sem]))
  (((try simp only [seval, go_sem]);repeat((with_reducible first|refine vJ ?_|refine vK ?_);try simp only [seval, go_sem])); with_reducible refine FinV.of ?_; simp only [finE, finS, gt, look, SV.toV, SC.toV, allV, tupV, zq1, zq2, zq3, zq4, Nat.reduceAdd, Nat.reduceEqDiff, reduceCtorEq, if_true, if_false, reduceIte, Nat.succ_ne_self, true_and, zq5, zq7, zq8])
  simp [isNum]
theorem cfgok_i (c : Cfg) (z : Zc) : PSpec Tryz.prog 38 [vCfg c] z fun v z' => v = .bool (cfgOk c) ∧ z = z' := by
  (refine pspec_enter Tryz.func38 ic38_ok fr38_ok Tryz.ntmps38 ?_; simp only [seval, go_sem, ic38, fr38])
  ((try simp only [seval, go_sem]);repeat((with_reducible first|refine vJ ?_|refine vK ?_);try simp only [seval, go_sem]))
  (try with_reducible refine callM.toT ?_); refine callP (in_i c.mode 1 2 z) rfl rfl ?_; rintro _ _ - ⟨rfl, rfl⟩; ((try simp only [seval, go_sem]);repeat((with_reducible first|refine vJ ?_|refine vK ?_);try simp only [seval, go_sem]))
  (with_reducible refine guardR.split (fun hg => ?_) (fun hg => ?_)); (rotate_left); (focus ((try simp only [hg]); simp only [seval, go_sem]; (((try simp only [seval, go_sem]);repeat((with_reducible first|refine vJ ?_|refine vK ?_);try simp only [seval, go_sem])); (((try simp only [seval, go_sem]);repeat((with_reducible first|refine vJ ?_|refine vK ?_);try simp only [seval, go_sem])); with_reducible refine FinV.of ?_; simp only [finE, finS, gt, look, SV.toV, SC.toV, allV, tupV, zq1, zq2, zq3, zq4, Nat.reduceAdd, Nat.reduceEqDiff, reduceCtorEq, if_true, if_false, reduceIte, Nat.succ_ne_self, true_and, zq5, zq7, zq8]); simp_all [cfgOk]))); (try simp only [hg]); ((try simp only [seval, go_sem]);repeat((with_reducible first|refine vJ ?_|refine vK ?_);try simp only [seval, go_sem]))
  (try with_reducible refine callM.toT ?_); refine callP (in_i c.win 1 4 z) rfl rfl ?_; rintro _ _ - ⟨rfl, rfl⟩; ((try simp only [seval, go_sem]);repeat((with_reducible first|refine vJ ?_|refine vK ?_);try simp only [seval, go_sem]))
  (with_reducible refine guardR.split (fun hg => ?_) (fun hg => ?_)); (rotate_left); (focus ((try simp only [hg]); simp only [seval, go_sem]; (((try simp only [seval, go_sem]);repeat((with_reducible first|refine vJ ?_|refine vK ?_);try simp only [seval, go_sem])); (((try simp only [seval, go_sem]);repeat((with_reducible first|refine vJ ?_|refine vK ?_);try simp only [seval, go_sem])); with_reducible refine FinV.of ?_; simp only [finE, finS, gt, look, SV.toV, SC.toV, allV, tupV, zq1, zq2, zq3, zq4, Nat.reduceAdd, Nat.reduceEqDiff, reduceCtorEq, if_true, if_false, reduceIte, Nat.succ_ne_self, true_and, zq5, zq7, zq8]); simp_all [cfgOk]))); (try simp only [hg]); ((try simp only [seval, go_sem]);repeat((with_reducible first|refine vJ ?_|refine vK ?_);try simp only [seval, go_sem]))
  (try with_reducible refine callM.toT ?_); refine callP (in_i c.mps 1 8 z) rfl rfl ?_; rintro _ _ - ⟨rfl, rfl⟩; ((try simp only [seval, go_sem]);repeat((with_reducible first|refine vJ ?_|refine vK ?_);try simp only [seval, go_sem]))
  (with_reducible refine guardR.split (fun hg => ?_) (fun hg => ?_)); (rotate_left); (focus ((try simp only [hg]); simp only [seval, go_sem]; (((try simp only [seval, go_sem]);repeat((with_reducible first|refine vJ ?_|refine vK ?_);try simp only [seval, go_sem])); (((try simp only [seval, go_sem]);repeat((with_reducible first|refine vJ ?_|refine vK ?_);try simp only [seval, go_sem])); with_reducible refine FinV.of ?_; simp only [finE, finS, gt, look, SV.toV, SC.toV, allV, tupV, zq1, zq2, zq3, zq4, Nat.reduceAdd, Nat.reduceEqDiff, reduceCtorEq, if_true, if_false, reduceIte, Nat.succ_ne_self, true_and, zq5, zq7, zq8]); simp_all [cfgOk]))); (try simp only [hg]); ((try simp only [seval, go_sem]);repeat((with_reducible first|refine vJ ?_|refine vK ?_);try simp only [seval, go_sem]))
  (try with_reducible refine callM.toT ?_); refine callP (in_i c.mtu 1 24 z) rfl rfl ?_; rintro _ _ - ⟨rfl, rfl⟩; ((try simp only [seval, go_sem]);repeat((with_reducible first|refine vJ ?_|refine vK ?_);try simp only [seval, go_sem]))
  (with_reducible refine guardR.split (fun hg => ?_) (fun hg => ?_)); (rotate_left); (focus ((try simp only [hg]); simp only [seval, go_sem]; (((try simp only [seval, go_sem]);repeat((with_reducible first|refine vJ ?_|refine vK ?_);try simp only [seval, go_sem])); (((try simp only [seval, go_sem]);repeat((with_reducible first|refine vJ ?_|refine vK ?_);try simp only [seval, go_sem])); with_reducible refine FinV.of ?_; simp only [finE, finS, gt, look, SV.toV, SC.toV, allV, tupV, zq1, zq2, zq3, zq4, Nat.reduceAdd, Nat.reduceEqDiff, reduceCtorEq, if_true, if_false, reduceIte, Nat.succ_ne_self, true_and, zq5, zq7, zq8]); simp_all [cfgOk]))); (try simp only [hg]); ((try simp only [seval, go_sem]);repeat((with_reducible first|refine vJ ?_|refine vK ?_);try simp only [seval, go_sem]))
  (try with_reducible refine callM.toT ?_); refine callP (in_i c.tri 1 5 z) rfl rfl ?_; rintro _ _ - ⟨rfl, rfl⟩; ((try simp only [seval, go_sem]);repeat((with_reducible first|refine vJ ?_|refine vK ?_);try simp only [seval, go_sem]))
  (((try simp only [seval, go_sem]);repeat((with_reducible first|refine vJ ?_|refine vK ?_);try simp only [seval, go_sem])); (((try simp only [seval, go_sem]);repeat((with_reducible first|refine vJ ?_|refine vK ?_);try simp only [seval, go_sem])); with_reducible refine FinV.of ?_; simp only [finE, finS, gt, look, SV.toV, SC.toV, allV, tupV, zq1, zq2, zq3, zq4, Nat.reduceAdd, Nat.reduceEqDiff, reduceCtorEq, if_true, if_false, reduceIte, Nat.succ_ne_self, true_and, zq5, zq7, zq8]); simp_all [cfgOk])
theorem cfgok_s (c : Cfg) (z : Zc) : PSpec Tryz.prog 81 [vCfg c] z fun v z' => v = .bool (cfgOk c) ∧ z = z' := by
  (refine pspec_enter Tryz.func81 ic81_ok fr81_ok Tryz.ntmps81 ?_; simp only [seval, go_sem, ic81, fr81])
  ((try simp only [seval, go_sem]);repeat((with_reducible first|refine vJ ?_|refine vK ?_);try simp only [seval, go_sem]))
  (try with_reducible refine callM.toT ?_); refine callP (in_s c.mode 1 2 z) rfl rfl ?_; rintro _ _ - ⟨rfl, rfl⟩; ((try simp only [seval, go_sem]);repeat((with_reducible first|refine vJ ?_|refine vK ?_);try simp only [seval, go_sem]))
  (with_reducible refine guardR.split (fun hg => ?_) (fun hg => ?_)); (rotate_left); (focus ((try simp only [hg]); simp only [seval, go_sem]; (((try simp only [seval, go_sem]);repeat((with_reducible first|refine vJ ?_|refine vK ?_);try simp only [seval, go_sem])); (((try simp only [seval, go_sem]);repeat((with_reducible first|refine vJ ?_|refine vK ?_);try simp only [seval, go_sem])); with_reducible refine FinV.of ?_; simp only [finE, finS, gt, look, SV.toV, SC.toV, allV, tupV, zq1, zq2, zq3, zq4, Nat.reduceAdd, Nat.reduceEqDiff, reduceCtorEq, if_true, if_false, reduceIte, Nat.succ_ne_self, true_and, zq5, zq7, zq8]); simp_all [cfgOk]))); (try simp only [hg]); ((try simp only [seval, go_sem]);repeat((with_reducible first|refine vJ ?_|refine vK ?_);try simp only [seval, go_sem]))
  (try with_reducible refine callM.toT ?_); refine callP (in_s c.win 1 4 z) rfl rfl ?_; rintro _ _ - ⟨rfl, rfl⟩; ((try simp only [seval, go_sem]);repeat((with_reducible first|refine vJ ?_|refine vK ?_);try simp only [seval, go_sem]))
  (with_reducible refine guardR.split (fun hg => ?_) (fun hg => ?_)); (rotate_left); (focus ((try simp only [hg]); simp only [seval, go_sem]; (((try simp only [seval, go_sem]);repeat((with_reducible first|refine vJ ?_|refine vK ?_);try simp only [seval, go_sem])); (((try simp only [seval, go_sem]);repeat((with_reducible first|refine vJ ?_|refine vK ?_);try simp only [seval, go_sem])); with_reducible refine FinV.of ?_; simp only [finE, finS, gt, look, SV.toV, SC.toV, allV, tupV, zq1, zq2, zq3, zq4, Nat.reduceAdd, Nat.reduceEqDiff, reduceCtorEq, if_true, if_false, reduceIte, Nat.succ_ne_self, true_and, zq5, zq7, zq8]); simp_all [cfgOk]))); (try simp only [hg]); ((try simp only [seval, go_sem]);repeat((with_reducible first|refine vJ ?_|refine vK ?_);try simp only [seval, go_sem]))
  (try with_reducible refine callM.toT ?_); refine callP (in_s c.mps 1 8 z) rfl rfl ?_; rintro _ _ - ⟨rfl, rfl⟩; ((try simp only [seval, go_sem]);repeat((with_reducible first|refine vJ ?_|refine vK ?_);try simp only [seval, go_sem]))
  (with_reducible refine guardR.split (fun hg => ?_) (fun hg => ?_)); (rotate_left); (focus ((try simp only [hg]); simp only [seval, go_sem]; (((try simp only [seval, go_sem]);repeat((with_reducible first|refine vJ ?_|refine vK ?_);try simp only [seval, go_sem])); (((try simp only [seval, go_sem]);repeat((with_reducible first|refine vJ ?_|refine vK ?_);try simp only [seval, go_sem])); with_reducible refine FinV.of ?_; simp only [finE, finS, gt, look, SV.toV, SC.toV, allV, tupV, zq1, zq2, zq3, zq4, Nat.reduceAdd, Nat.reduceEqDiff, reduceCtorEq, if_true, if_false, reduceIte, Nat.succ_ne_self, true_and, zq5, zq7, zq8]); simp_all [cfgOk]))); (try simp only [hg]); ((try simp only [seval, go_sem]);repeat((with_reducible first|refine vJ ?_|refine vK ?_);try simp only [seval, go_sem]))
  (try with_reducible refine callM.toT ?_); refine callP (in_s c.mtu 1 24 z) rfl rfl ?_; rintro _ _ - ⟨rfl, rfl⟩; ((try simp only [seval, go_sem]);repeat((with_reducible first|refine vJ ?_|refine vK ?_);try simp only [seval, go_sem]))
  (with_reducible refine guardR.split (fun hg => ?_) (fun hg => ?_)); (rotate_left); (focus ((try simp only [hg]); simp only [seval, go_sem]; (((try simp only [seval, go_sem]);repeat((with_reducible first|refine vJ ?_|refine vK ?_);try simp only [seval, go_sem])); (((try simp only [seval, go_sem]);repeat((with_reducible first|refine vJ ?_|refine vK ?_);try simp only [seval, go_sem])); with_reducible refine FinV.of ?_; simp only [finE, finS, gt, look, SV.toV, SC.toV, allV, tupV, zq1, zq2, zq3, zq4, Nat.reduceAdd, Nat.reduceEqDiff, reduceCtorEq, if_true, if_false, reduceIte, Nat.succ_ne_self, true_and, zq5, zq7, zq8]); simp_all [cfgOk]))); (try simp only [hg]); ((try simp only [seval, go_sem]);repeat((with_reducible first|refine vJ ?_|refine vK ?_);try simp only [seval, go_sem]))
  (try with_reducible refine callM.toT ?_); refine callP (in_s c.tri 1 5 z) rfl rfl ?_; rintro _ _ - ⟨rfl, rfl⟩; ((try simp only [seval, go_sem]);repeat((with_reducible first|refine vJ ?_|refine vK ?_);try simp only [seval, go_sem]))
  (((try simp only [seval, go_sem]);repeat((with_reducible first|refine vJ ?_|refine vK ?_);try simp only [seval, go_sem])); (((try simp only [seval, go_sem]);repeat((with_reducible first|refine vJ ?_|refine vK ?_);try simp only [seval, go_sem])); with_reducible refine FinV.of ?_; simp only [finE, finS, gt, look, SV.toV, SC.toV, allV, tupV, zq1, zq2, zq3, zq4, Nat.reduceAdd, Nat.reduceEqDiff, reduceCtorEq, if_true, if_false, reduceIte, Nat.succ_ne_self, true_and, zq5, zq7, zq8]); simp_all [cfgOk])
theorem numnext_i (n : Int) (z : Zc) (h : 0 ≤ n ∧ n ≤ 1000000) : PSpec Tryz.prog 74 [.int .i64 n] z fun v z' => v = .int .i64 (numNext n) ∧ z = z' := by
  (refine pspec_enter Tryz.func74 ic74_ok fr74_ok Tryz.ntmps74 ?_; simp only [seval, go_sem, ic74, fr74])
  ((try simp only [seval, go_sem]);repeat((with_reducible first|refine vJ ?_|refine vK ?_);try simp only [seval, go_sem]))
  (((try simp only [seval, go_sem]);repeat((with_reducible first|refine vJ ?_|refine vK ?_);try simp only [seval, go_sem])); with_reducible refine FinV.of ?_; simp only [finE, finS, gt, look, SV.toV, SC.toV, allV, tupV, zq1, zq2, zq3, zq4, Nat.reduceAdd, Nat.reduceEqDiff, reduceCtorEq, if_true, if_false, reduceIte, Nat.succ_ne_self, true_and, zq5, zq7, zq8])
  rw [wrap_in (by omega) (by omega)]
  simp [numNext]
theorem numof_i (n : Int) (z : Zc) (h : 0 ≤ n ∧ n ≤ 1000000) : PSpec Tryz.prog 52 [.int .i64 n] z fun v z' => v = .int .i64 (numOf n) ∧ z = z' := by
  (refine pspec_enter Tryz.func52 ic52_ok fr52_ok Tryz.ntmps52 ?_; simp only [seval, go_sem, ic52, fr52])
  ((try simp only [seval, go_sem]);repeat((with_reducible first|refine vJ ?_|refine vK ?_);try simp only [seval, go_sem]))
  (with_reducible refine condI.split (fun hg => ?_) (fun hg => ?_) <;> (try simp only [hg]) <;> (try simp only [seval, go_sem]))
  · simp at hg; omega
  · ((try simp only [seval, go_sem]);repeat((with_reducible first|refine vJ ?_|refine vK ?_);try simp only [seval, go_sem]))
    (((try simp only [seval, go_sem]);repeat((with_reducible first|refine vJ ?_|refine vK ?_);try simp only [seval, go_sem])); with_reducible refine FinV.of ?_; simp only [finE, finS, gt, look, SV.toV, SC.toV, allV, tupV, zq1, zq2, zq3, zq4, Nat.reduceAdd, Nat.reduceEqDiff, reduceCtorEq, if_true, if_false, reduceIte, Nat.succ_ne_self, true_and, zq5, zq7, zq8])
    rw [Int.tmod_eq_emod_of_nonneg (by omega)]
    simp [numOf]; omega
theorem numnext_s (n : Int) (z : Zc) (h : 0 ≤ n ∧ n ≤ 1000000) : PSpec Tryz.prog 134 [.int .i64 n] z fun v z' => v = .int .i64 (numNext n) ∧ z = z' := by
  (refine pspec_enter Tryz.func134 ic134_ok fr134_ok Tryz.ntmps134 ?_; simp only [seval, go_sem, ic134, fr134])
  ((try simp only [seval, go_sem]);repeat((with_reducible first|refine vJ ?_|refine vK ?_);try simp only [seval, go_sem]))
  (((try simp only [seval, go_sem]);repeat((with_reducible first|refine vJ ?_|refine vK ?_);try simp only [seval, go_sem])); with_reducible refine FinV.of ?_; simp only [finE, finS, gt, look, SV.toV, SC.toV, allV, tupV, zq1, zq2, zq3, zq4, Nat.reduceAdd, Nat.reduceEqDiff, reduceCtorEq, if_true, if_false, reduceIte, Nat.succ_ne_self, true_and, zq5, zq7, zq8])
  rw [wrap_in (by omega) (by omega)]
  simp [numNext]
theorem numof_s (n : Int) (z : Zc) (h : 0 ≤ n ∧ n ≤ 1000000) : PSpec Tryz.prog 147 [.int .i64 n] z fun v z' => v = .int .i64 (numOf n) ∧ z = z' := by
  (refine pspec_enter Tryz.func147 ic147_ok fr147_ok Tryz.ntmps147 ?_; simp only [seval, go_sem, ic147, fr147])
  ((try simp only [seval, go_sem]);repeat((with_reducible first|refine vJ ?_|refine vK ?_);try simp only [seval, go_sem]))
  (with_reducible refine condI.split (fun hg => ?_) (fun hg => ?_) <;> (try simp only [hg]) <;> (try simp only [seval, go_sem]))
  · simp at hg; omega
  · ((try simp only [seval, go_sem]);repeat((with_reducible first|refine vJ ?_|refine vK ?_);try simp only [seval, go_sem]))
    (((try simp only [seval, go_sem]);repeat((with_reducible first|refine vJ ?_|refine vK ?_);try simp only [seval, go_sem])); with_reducible refine FinV.of ?_; simp only [finE, finS, gt, look, SV.toV, SC.toV, allV, tupV, zq1, zq2, zq3, zq4, Nat.reduceAdd, Nat.reduceEqDiff, reduceCtorEq, if_true, if_false, reduceIte, Nat.succ_ne_self, true_and, zq5, zq7, zq8])
    rw [Int.tmod_eq_emod_of_nonneg (by omega)]
    simp [numOf]; omega
theorem far_i (a b : Int) (z : Zc) (h : 0 ≤ a ∧ a ≤ 1000000) (h : 0 ≤ b ∧ b ≤ 1000000) (h : a - 8 ≤ b) : PSpec Tryz.prog 49 [.int .i64 a, .int .i64 b] z fun v z' => v = .int .i64 (far a b) ∧ z = z' := by
  (refine pspec_enter Tryz.func49 ic49_ok fr49_ok Tryz.ntmps49 ?_; simp only [seval, go_sem, ic49, fr49])
  ((try simp only [seval, go_sem]);repeat((with_reducible first|refine vJ ?_|refine vK ?_);try simp only [seval, go_sem]))
  (((try simp only [seval, go_sem]);repeat((with_reducible first|refine vJ ?_|refine vK ?_);try simp only [seval, go_sem])); with_reducible refine FinV.of ?_; simp only [finE, finS, gt, look, SV.toV, SC.toV, allV, tupV, zq1, zq2, zq3, zq4, Nat.reduceAdd, Nat.reduceEqDiff, reduceCtorEq, if_true, if_false, reduceIte, Nat.succ_ne_self, true_and, zq5, zq7, zq8])
  rw [wrap_in (n := b - a) (by omega) (by omega)]
  rw [wrap_in (by omega) (by omega)]
  rw [Int.tmod_eq_emod_of_nonneg (by omega)]
  simp [far]
theorem numfar_s (a b : Int) (z : Zc) : PSpec Tryz.prog 159 [.int .i64 a, .int .i64 b] z fun v z' => v = .int .i64 (numFar a b) ∧ z = z' := by
  (refine pspec_enter Tryz.func159 ic159_ok fr159_ok Tryz.ntmps159 ?_; simp only [seval, go_sem, ic159, fr159])
  (try simp only [seval, go_sem]); repeat' (first | (with_reducible refine vsI.id ?_; (try simp only [seval, go_sem])) | (with_reducible refine vcI_cond ?_; (try simp only [seval, go_sem])) | (with_reducible refine guardR.split (fun hg => ?_) (fun hg => ?_) <;> (try simp only [hg]) <;> simp only [seval, go_sem]) | (with_reducible refine condI.split (fun hg => ?_) (fun hg => ?_) <;> (try simp only [hg]) <;> (try simp only [seval, go_sem])) | (with_reducible refine callM.toT ?_) | (refine callP (in_s _ _ _ _) rfl rfl ?_; rintro _ _ - ⟨rfl, rfl⟩; (try simp only [seval, go_sem])))
  · (((try simp only [seval, go_sem]);repeat((with_reducible first|refine vJ ?_|refine vK ?_);try simp only [seval, go_sem])); with_reducible refine FinV.of ?_; simp only [finE, finS, gt, look, SV.toV, SC.toV, allV, tupV, zq1, zq2, zq3, zq4, Nat.reduceAdd, Nat.reduceEqDiff, reduceCtorEq, if_true, if_false, reduceIte, Nat.succ_ne_self, true_and, zq5, zq7, zq8]); simp_all [numFar, isNum]
  · (((try simp only [seval, go_sem]);repeat((with_reducible first|refine vJ ?_|refine vK ?_);try simp only [seval, go_sem])); with_reducible refine FinV.of ?_; simp only [finE, finS, gt, look, SV.toV, SC.toV, allV, tupV, zq1, zq2, zq3, zq4, Nat.reduceAdd, Nat.reduceEqDiff, reduceCtorEq, if_true, if_false, reduceIte, Nat.succ_ne_self, true_and, zq5, zq7, zq8]); simp_all [numFar, isNum]
  · simp only [Bool.not_eq_false'] at *
    have h1 := inB_iff.1 (by assumption : inB a 0 7 = true)
    have h2 := inB_iff.1 (by assumption : inB b 0 7 = true)
    (((try simp only [seval, go_sem]);repeat((with_reducible first|refine vJ ?_|refine vK ?_);try simp only [seval, go_sem])); with_reducible refine FinV.of ?_; simp only [finE, finS, gt, look, SV.toV, SC.toV, allV, tupV, zq1, zq2, zq3, zq4, Nat.reduceAdd, Nat.reduceEqDiff, reduceCtorEq, if_true, if_false, reduceIte, Nat.succ_ne_self, true_and, zq5, zq7, zq8])
    rw [wrap_in (n := b - a) (by omega) (by omega)]
    rw [wrap_in (by omega) (by omega)]
    rw [Int.tmod_eq_emod_of_nonneg (by omega)]
    simp_all [numFar, isNum, far]
theorem pieceok_i (seg len : Int) (A : Option Addr) (n c : Nat) (z : Zc) (h : n ≤ 1000000000) : PSpec Tryz.prog 68 [.int .i64 seg, .int .i64 len, .slice A n c] z fun v z' => v = .bool (pieceOk seg len n) ∧ z = z' := by
  (refine pspec_enter Tryz.func68 ic68_ok fr68_ok Tryz.ntmps68 ?_; simp only [seval, go_sem, ic68, fr68])
  (try simp only [seval, go_sem]); repeat' (first | (with_reducible refine vsI.id ?_; (try simp only [seval, go_sem])) | (with_reducible refine vcI_cond ?_; (try simp only [seval, go_sem])) | (with_reducible refine guardR.split (fun hg => ?_) (fun hg => ?_) <;> (try simp only [hg]) <;> simp only [seval, go_sem]) | (with_reducible refine condI.split (fun hg => ?_) (fun hg => ?_) <;> (try simp only [hg]) <;> (try simp only [seval, go_sem])) | (with_reducible refine callM.toT ?_) | (refine callP (in_i _ _ _ _) rfl rfl ?_; rintro _ _ - ⟨rfl, rfl⟩; (try simp only [seval, go_sem])))
  all_goals (try ((((try simp only [seval, go_sem]);repeat((with_reducible first|refine vJ ?_|refine vK ?_);try simp only [seval, go_sem])); with_reducible refine FinV.of ?_; simp only [finE, finS, gt, look, SV.toV, SC.toV, allV, tupV, zq1, zq2, zq3, zq4, Nat.reduceAdd, Nat.reduceEqDiff, reduceCtorEq, if_true, if_false, reduceIte, Nat.succ_ne_self, true_and, zq5, zq7, zq8]); (try simp only [inB_iff, inB_no, isNum_iff, beq_iff_eq, decide_eq_true_eq, decide_eq_false_iff_not, beq_eq_false_iff_ne, bne_iff_ne, bne_eq_false_iff_eq, Bool.not_eq_true', Bool.not_eq_false', and_true] at *); (try simp (disch := omega) only [wrap_in, Int.tmod_eq_emod_of_nonneg] at *); (try simp only [and_true]); first | rfl | (simp_all [pieceOk]; done) | (refine congrArg Value.bool (Bool.eq_iff_iff.2 ?_); simp [*, pieceOk, inB_iff]; done) | (refine congrArg Value.bool (Bool.eq_iff_iff.2 ?_); simp [*, pieceOk, inB_iff]; omega) | (simp_all [pieceOk]; omega)))
theorem partok_i (p : Part) (A : Option Addr) (n c : Nat) (z : Zc) (h : p.data.length ≤ 1000000000) (hn : p.data.length = n) : PSpec Tryz.prog 73 [vPart p (.slice A n c)] z fun v z' => v = .bool (partOk p) ∧ z = z' := by
  (refine pspec_enter Tryz.func73 ic73_ok fr73_ok Tryz.ntmps73 ?_; simp only [seval, go_sem, ic73, fr73])
  (try simp only [seval, go_sem]); repeat' (first | (with_reducible refine vsI.id ?_; (try simp only [seval, go_sem])) | (with_reducible refine vcI_cond ?_; (try simp only [seval, go_sem])) | (with_reducible refine guardR.split (fun hg => ?_) (fun hg => ?_) <;> (try simp only [hg]) <;> simp only [seval, go_sem]) | (with_reducible refine condI.split (fun hg => ?_) (fun hg => ?_) <;> (try simp only [hg]) <;> (try simp only [seval, go_sem])) | (with_reducible refine callM.toT ?_) | (refine callP (pieceok_i _ _ _ _ _ _ (by omega)) rfl rfl ?_; rintro _ _ - ⟨rfl, rfl⟩; (try simp only [seval, go_sem])))
  all_goals (try ((((try simp only [seval, go_sem]);repeat((with_reducible first|refine vJ ?_|refine vK ?_);try simp only [seval, go_sem])); with_reducible refine FinV.of ?_; simp only [finE, finS, gt, look, SV.toV, SC.toV, allV, tupV, zq1, zq2, zq3, zq4, Nat.reduceAdd, Nat.reduceEqDiff, reduceCtorEq, if_true, if_false, reduceIte, Nat.succ_ne_self, true_and, zq5, zq7, zq8]); (try simp only [inB_iff, inB_no, isNum_iff, beq_iff_eq, decide_eq_true_eq, decide_eq_false_iff_not, beq_eq_false_iff_ne, bne_iff_ne, bne_eq_false_iff_eq, Bool.not_eq_true', Bool.not_eq_false', and_true] at *); (try simp (disch := omega) only [wrap_in, Int.tmod_eq_emod_of_nonneg] at *); (try simp only [and_true]); first | rfl | (simp_all [partOk]; done) | (refine congrArg Value.bool (Bool.eq_iff_iff.2 ?_); simp [*, partOk, inB_iff]; done) | (refine congrArg Value.bool (Bool.eq_iff_iff.2 ?_); simp [*, partOk, inB_iff]; omega) | (simp_all [partOk]; omega)))
theorem joinok_i (j : Join) (A : Option Addr) (c : Nat) (z : Zc) (h : j.got.length ≤ 1000000000) (hj : -1000000000 ≤ j.len) : PSpec Tryz.prog 42 [vJoin j (.slice A j.got.length c)] z fun v z' => v = .bool (joinOk j) ∧ z = z' := by
  (refine pspec_enter Tryz.func42 ic42_ok fr42_ok Tryz.ntmps42 ?_; simp only [seval, go_sem, ic42, fr42])
  (try simp only [seval, go_sem]); repeat' (first | (with_reducible refine vsI.id ?_; (try simp only [seval, go_sem])) | (with_reducible refine vcI_cond ?_; (try simp only [seval, go_sem])) | (with_reducible refine guardR.split (fun hg => ?_) (fun hg => ?_) <;> (try simp only [hg]) <;> simp only [seval, go_sem]) | (with_reducible refine condI.split (fun hg => ?_) (fun hg => ?_) <;> (try simp only [hg]) <;> (try simp only [seval, go_sem])) | (with_reducible refine callM.toT ?_) | (refine callP (in_i _ _ _ _) rfl rfl ?_; rintro _ _ - ⟨rfl, rfl⟩; (try simp only [seval, go_sem])))
  all_goals (first | ((((try simp only [seval, go_sem]);repeat((with_reducible first|refine vJ ?_|refine vK ?_);try simp only [seval, go_sem])); with_reducible refine FinV.of ?_; simp only [finE, finS, gt, look, SV.toV, SC.toV, allV, tupV, zq1, zq2, zq3, zq4, Nat.reduceAdd, Nat.reduceEqDiff, reduceCtorEq, if_true, if_false, reduceIte, Nat.succ_ne_self, true_and, zq5, zq7, zq8]); (try simp only [inB_iff, inB_no, isNum_iff, beq_iff_eq, decide_eq_true_eq, decide_eq_false_iff_not, beq_eq_false_iff_ne, bne_iff_ne, bne_eq_false_iff_eq, Bool.not_eq_true', Bool.not_eq_false', and_true] at *); (try simp (disch := omega) only [wrap_in, Int.tmod_eq_emod_of_nonneg] at *); (try simp only [and_true]); first | rfl | (simp_all [joinOk]; done) | (refine congrArg Value.bool (Bool.eq_iff_iff.2 ?_); simp [*, joinOk, inB_iff]; done) | (refine congrArg Value.bool (Bool.eq_iff_iff.2 ?_); simp [*, joinOk, inB_iff]; omega) | (simp_all [joinOk]; omega)) | ((((try simp only [seval, go_sem]);repeat((with_reducible first|refine vJ ?_|refine vK ?_);try simp only [seval, go_sem])); with_reducible refine FinV.of ?_; simp only [finE, finS, gt, look, SV.toV, SC.toV, allV, tupV, zq1, zq2, zq3, zq4, Nat.reduceAdd, Nat.reduceEqDiff, reduceCtorEq, if_true, if_false, reduceIte, Nat.succ_ne_self, true_and, zq5, zq7, zq8]); (try simp only [inB_iff, inB_no, isNum_iff, beq_iff_eq, decide_eq_true_eq, decide_eq_false_iff_not, beq_eq_false_iff_ne, bne_iff_ne, bne_eq_false_iff_eq, Bool.not_eq_true', Bool.not_eq_false', and_true] at *); (try simp (disch := omega) only [wrap_in, Int.tmod_eq_emod_of_nonneg] at *); (try simp only [and_true]); (refine congrArg Value.bool (Bool.eq_iff_iff.2 ?_)); (simp only [joinOk_iff, JoinI, ← List.length_eq_zero_iff, inB_iff, inB_no, isNum_iff, beq_iff_eq, decide_eq_true_eq, Bool.and_eq_true, Bool.or_eq_true, Bool.false_eq_true, false_iff, true_iff, iff_true, iff_false, Bool.not_eq_true']); omega))
theorem joinok_s (j : Join) (A : Option Addr) (c : Nat) (z : Zc) (h : j.got.length ≤ 1000000000) (hj : -1000000000 ≤ j.len) : PSpec Tryz.prog 148 [vJoin j (.slice A j.got.length c)] z fun v z' => v = .bool (joinOk j) ∧ z = z' := by
  (refine pspec_enter Tryz.func148 ic148_ok fr148_ok Tryz.ntmps148 ?_; simp only [seval, go_sem, ic148, fr148])
  (try simp only [seval, go_sem]); repeat' (first | (with_reducible refine vsI.id ?_; (try simp only [seval, go_sem])) | (with_reducible refine vcI_cond ?_; (try simp only [seval, go_sem])) | (with_reducible refine guardR.split (fun hg => ?_) (fun hg => ?_) <;> (try simp only [hg]) <;> simp only [seval, go_sem]) | (with_reducible refine condI.split (fun hg => ?_) (fun hg => ?_) <;> (try simp only [hg]) <;> (try simp only [seval, go_sem])) | (with_reducible refine callM.toT ?_) | (refine callP (in_s _ _ _ _) rfl rfl ?_; rintro _ _ - ⟨rfl, rfl⟩; (try simp only [seval, go_sem])))
  all_goals (first | ((((try simp only [seval, go_sem]);repeat((with_reducible first|refine vJ ?_|refine vK ?_);try simp only [seval, go_sem])); with_reducible refine FinV.of ?_; simp only [finE, finS, gt, look, SV.toV, SC.toV, allV, tupV, zq1, zq2, zq3, zq4, Nat.reduceAdd, Nat.reduceEqDiff, reduceCtorEq, if_true, if_false, reduceIte, Nat.succ_ne_self, true_and, zq5, zq7, zq8]); (try simp only [inB_iff, inB_no, isNum_iff, beq_iff_eq, decide_eq_true_eq, decide_eq_false_iff_not, beq_eq_false_iff_ne, bne_iff_ne, bne_eq_false_iff_eq, Bool.not_eq_true', Bool.not_eq_false', and_true] at *); (try simp (disch := omega) only [wrap_in, Int.tmod_eq_emod_of_nonneg] at *); (try simp only [and_true]); first | rfl | (simp_all [joinOk]; done) | (refine congrArg Value.bool (Bool.eq_iff_iff.2 ?_); simp [*, joinOk, inB_iff]; done) | (refine congrArg Value.bool (Bool.eq_iff_iff.2 ?_); simp [*, joinOk, inB_iff]; omega) | (simp_all [joinOk]; omega)) | ((((try simp only [seval, go_sem]);repeat((with_reducible first|refine vJ ?_|refine vK ?_);try simp only [seval, go_sem])); with_reducible refine FinV.of ?_; simp only [finE, finS, gt, look, SV.toV, SC.toV, allV, tupV, zq1, zq2, zq3, zq4, Nat.reduceAdd, Nat.reduceEqDiff, reduceCtorEq, if_true, if_false, reduceIte, Nat.succ_ne_self, true_and, zq5, zq7, zq8]); (try simp only [inB_iff, inB_no, isNum_iff, beq_iff_eq, decide_eq_true_eq, decide_eq_false_iff_not, beq_eq_false_iff_ne, bne_iff_ne, bne_eq_false_iff_eq, Bool.not_eq_true', Bool.not_eq_false', and_true] at *); (try simp (disch := omega) only [wrap_in, Int.tmod_eq_emod_of_nonneg] at *); (try simp only [and_true]); (refine congrArg Value.bool (Bool.eq_iff_iff.2 ?_)); (simp only [joinOk_iff, JoinI, ← List.length_eq_zero_iff, inB_iff, inB_no, isNum_iff, beq_iff_eq, decide_eq_true_eq, Bool.and_eq_true, Bool.or_eq_true, Bool.false_eq_true, false_iff, true_iff, iff_true, iff_false, Bool.not_eq_true']); omega))
theorem bit_s (b : Bool) (z : Zc) : PSpec Tryz.prog 106 [.bool b] z fun v z' => v = .int .i64 (bit b) ∧ z = z' := by
  (refine pspec_enter Tryz.func106 ic106_ok fr106_ok Tryz.ntmps106 ?_; simp only [seval, go_sem, ic106, fr106])
  (try simp only [seval, go_sem]); repeat' (first | (with_reducible refine vsI.id ?_; (try simp only [seval, go_sem])) | (with_reducible refine vcI_cond ?_; (try simp only [seval, go_sem])) | (with_reducible refine guardR.split (fun hg => ?_) (fun hg => ?_) <;> (try simp only [hg]) <;> simp only [seval, go_sem]) | (with_reducible refine condI.split (fun hg => ?_) (fun hg => ?_) <;> (try simp only [hg]) <;> (try simp only [seval, go_sem])) | (with_reducible refine callM.toT ?_))
  all_goals ((((try simp only [seval, go_sem]);repeat((with_reducible first|refine vJ ?_|refine vK ?_);try simp only [seval, go_sem])); with_reducible refine FinV.of ?_; simp only [finE, finS, gt, look, SV.toV, SC.toV, allV, tupV, zq1, zq2, zq3, zq4, Nat.reduceAdd, Nat.reduceEqDiff, reduceCtorEq, if_true, if_false, reduceIte, Nat.succ_ne_self, true_and, zq5, zq7, zq8]); (try simp only [inB_iff, inB_no, isNum_iff, beq_iff_eq, decide_eq_true_eq, decide_eq_false_iff_not, beq_eq_false_iff_ne, bne_iff_ne, bne_eq_false_iff_eq, Bool.not_eq_true', Bool.not_eq_false', and_true] at *); (try simp (disch := omega) only [wrap_in, Int.tmod_eq_emod_of_nonneg] at *); (try simp only [and_true]); first | rfl | (simp_all [bit]; done) | (refine congrArg Value.bool (Bool.eq_iff_iff.2 ?_); simp [*, bit, inB_iff]; done) | (refine congrArg Value.bool (Bool.eq_iff_iff.2 ?_); simp [*, bit, inB_iff]; omega) | (simp_all [bit]; omega))
theorem gowait_i (b : Bool) (z : Zc) : PSpec Tryz.prog 51 [.bool b] z fun v z' => v = .int .i64 (goWait b) ∧ z = z' := by
  (refine pspec_enter Tryz.func51 ic51_ok fr51_ok Tryz.ntmps51 ?_; simp only [seval, go_sem, ic51, fr51])
  (try simp only [seval, go_sem]); repeat' (first | (with_reducible refine vsI.id ?_; (try simp only [seval, go_sem])) | (with_reducible refine vcI_cond ?_; (try simp only [seval, go_sem])) | (with_reducible refine guardR.split (fun hg => ?_) (fun hg => ?_) <;> (try simp only [hg]) <;> simp only [seval, go_sem]) | (with_reducible refine condI.split (fun hg => ?_) (fun hg => ?_) <;> (try simp only [hg]) <;> (try simp only [seval, go_sem])) | (with_reducible refine callM.toT ?_))
  all_goals ((((try simp only [seval, go_sem]);repeat((with_reducible first|refine vJ ?_|refine vK ?_);try simp only [seval, go_sem])); with_reducible refine FinV.of ?_; simp only [finE, finS, gt, look, SV.toV, SC.toV, allV, tupV, zq1, zq2, zq3, zq4, Nat.reduceAdd, Nat.reduceEqDiff, reduceCtorEq, if_true, if_false, reduceIte, Nat.succ_ne_self, true_and, zq5, zq7, zq8]); (try simp only [inB_iff, inB_no, isNum_iff, beq_iff_eq, decide_eq_true_eq, decide_eq_false_iff_not, beq_eq_false_iff_ne, bne_iff_ne, bne_eq_false_iff_eq, Bool.not_eq_true', Bool.not_eq_false', and_true] at *); (try simp (disch := omega) only [wrap_in, Int.tmod_eq_emod_of_nonneg] at *); (try simp only [and_true]); first | rfl | (simp_all [goWait]; done) | (refine congrArg Value.bool (Bool.eq_iff_iff.2 ?_); simp [*, goWait, inB_iff]; done) | (refine congrArg Value.bool (Bool.eq_iff_iff.2 ?_); simp [*, goWait, inB_iff]; omega) | (simp_all [goWait]; omega))
theorem l2seg_s (f : Frm) (A : Option Addr) (c : Nat) (z : Zc) (h : f.data.length ≤ 1000000000) : PSpec Tryz.prog 130 [vFrm f (.slice A f.data.length c)] z fun v z' => v = .bool (pieceOk f.seg f.len f.data.length) ∧ z = z' := by
  (refine pspec_enter Tryz.func130 ic130_ok fr130_ok Tryz.ntmps130 ?_; simp only [seval, go_sem, ic130, fr130])
  (try simp only [seval, go_sem]); repeat' (first | (with_reducible refine vsI.id ?_; (try simp only [seval, go_sem])) | (with_reducible refine vcI_cond ?_; (try simp only [seval, go_sem])) | (with_reducible refine guardR.split (fun hg => ?_) (fun hg => ?_) <;> (try simp only [hg]) <;> simp only [seval, go_sem]) | (with_reducible refine condI.split (fun hg => ?_) (fun hg => ?_) <;> (try simp only [hg]) <;> (try simp only [seval, go_sem])) | (with_reducible refine callM.toT ?_) | (refine callP (in_s _ _ _ _) rfl rfl ?_; rintro _ _ - ⟨rfl, rfl⟩; (try simp only [seval, go_sem])))
  all_goals (first | ((((try simp only [seval, go_sem]);repeat((with_reducible first|refine vJ ?_|refine vK ?_);try simp only [seval, go_sem])); with_reducible refine FinV.of ?_; simp only [finE, finS, gt, look, SV.toV, SC.toV, allV, tupV, zq1, zq2, zq3, zq4, Nat.reduceAdd, Nat.reduceEqDiff, reduceCtorEq, if_true, if_false, reduceIte, Nat.succ_ne_self, true_and, zq5, zq7, zq8]); (try simp only [inB_iff, inB_no, isNum_iff, beq_iff_eq, decide_eq_true_eq, decide_eq_false_iff_not, beq_eq_false_iff_ne, bne_iff_ne, bne_eq_false_iff_eq, Bool.not_eq_true', Bool.not_eq_false', and_true] at *); (try simp (disch := omega) only [wrap_in, Int.tmod_eq_emod_of_nonneg] at *); (try simp only [and_true]); (refine congrArg Value.bool (Bool.eq_iff_iff.2 ?_)); (simp only [pieceOk_iff, inB_iff, inB_no, isNum_iff, beq_iff_eq, decide_eq_true_eq, Bool.and_eq_true, Bool.or_eq_true, Bool.false_eq_true, false_iff, true_iff, iff_true, iff_false, Bool.not_eq_true']); omega) | ((((try simp only [seval, go_sem]);repeat((with_reducible first|refine vJ ?_|refine vK ?_);try simp only [seval, go_sem])); with_reducible refine FinV.of ?_; simp only [finE, finS, gt, look, SV.toV, SC.toV, allV, tupV, zq1, zq2, zq3, zq4, Nat.reduceAdd, Nat.reduceEqDiff, reduceCtorEq, if_true, if_false, reduceIte, Nat.succ_ne_self, true_and, zq5, zq7, zq8]); (try simp only [inB_iff, inB_no, isNum_iff, beq_iff_eq, decide_eq_true_eq, decide_eq_false_iff_not, beq_eq_false_iff_ne, bne_iff_ne, bne_eq_false_iff_eq, Bool.not_eq_true', Bool.not_eq_false', and_true] at *); (try simp (disch := omega) only [wrap_in, Int.tmod_eq_emod_of_nonneg] at *); (try simp only [and_true]); first | rfl | (simp_all [pieceOk, inB]; done) | (refine congrArg Value.bool (Bool.eq_iff_iff.2 ?_); simp [*, pieceOk, inB, inB_iff]; done) | (refine congrArg Value.bool (Bool.eq_iff_iff.2 ?_); simp [*, pieceOk, inB, inB_iff]; omega) | (simp_all [pieceOk, inB]; omega)))
set_option maxHeartbeats 4000000
def ic97 : IC := (.seq (.reg [] (xt (.mv (.const (.int .i64 0))) 4 .done)) (.seq (.seq (.reg [] (xt (.mv (xr 0)) 6 (xt (.len (xr 6)) 7 (xt (.mv (.const (.int .i64 0))) 8 .done)))) (.block 0 (.loop (.seq (.reg [] (xt (.bin .lss (xr 8) (xr 7)) 9 .done)) (.seq (.cond (xr 9) .skip (.exit 0)) (.seq (.block 1 (.seq (.reg [] (xt (.mv (xr 8)) 10 (xt (.mv (xr 10)) 5 .done))) (.seq (.reg [] (xt (.mv (xr 1)) 11 (xt (.mv (xr 0)) 12 (xt (.mv (xr 5)) 13 (xt (.iad (xr 12) (xr 13) 3) 14 (xt (.ld (xr 14) 3 true) 15 (xt (.oth (Op.call (Call.mk (Callee.value (xr 11)) #[xr 15] #[88]))) 16 .done))))))) (.cond (xr 16) (.seq (.reg [] (xt (.mv (xr 5)) 17 (xt (.mv (xr 17)) 4 .done))) .ret) .skip)))) (.reg [] (xt (.bin .add (xr 8) (.const (.int .i64 1))) 18 (xt (.mv (xr 18)) 8 .done))))))))) (.seq (.reg [] (xt (.mv (.const (.int .i64 (-1)))) 4 .done)) .ret)))
theorem ic97_ok : Tryz.f97.body.bind (trC Tryz.prog []) = some ic97 := by kernel_rfl
def fr97 : List FR := [(FR.t 4)]
theorem fr97_ok : fres Tryz.prog Tryz.f97.results.toList = some fr97 := by kernel_rfl
def ic71 : IC := (.seq (.reg [] (xt (.mv (.const (.bool false))) 4 .done)) (.seq (.reg [] (xt (.mv (xr 0)) 5 (xt (.mv (xr 1)) 6 (xt (.call 97 [xr 5, xr 6]) 7 (xt (.bin .geq (xr 7) (.const (.int .i64 0))) 8 (xt (.mv (xr 8)) 4 .done)))))) .ret))
theorem ic71_ok : Tryz.f71.body.bind (trC Tryz.prog []) = some ic71 := by kernel_rfl
def fr71 : List FR := [(FR.t 4)]
theorem fr71_ok : fres Tryz.prog Tryz.f71.results.toList = some fr71 := by kernel_rfl
def ic41 : IC := (.seq (.reg [] (xt (.box 24 (xr 0)) 2 (xt (.mv (.const (.bool false))) 4 .done))) (.seq (.reg [] (xt (.mv (xr 1)) 5 (xt (.oth (Op.makeFunc (Fn.func 72) #[] #[xr 2])) 6 (xt (.call 71 [xr 5, xr 6]) 7 (xt (.not (xr 7)) 8 (xt (.mv (xr 8)) 4 .done)))))) .ret))
theorem ic41_ok : Tryz.f41.body.bind (trC Tryz.prog []) = some ic41 := by kernel_rfl
def fr41 : List FR := [(FR.t 4)]
theorem fr41_ok : fres Tryz.prog Tryz.f41.results.toList = some fr41 := by kernel_rfl
def ic72 : IC := (.seq (.reg [] (xt (.box 88 (xr 0)) 2 (xt (.mv (.const (.bool false))) 3 .done))) (.seq (.reg [] (xt (.ld (xr 2) 3 true) 4 (xt (.call 73 [xr 4]) 5 (xt (.not (xr 5)) 6 (xt (.mv (xr 6)) 7 (.op .t (.fad (xr 2) 2) (some 8) (some (7, false)) (.op .t (.ld (xr 8) 1 false) (some 9) (some (7, false)) (.op .t (.len (xr 9)) (some 10) (some (7, false)) (.op .t (.fad (xr 1) 2) (some 11) (some (7, false)) (.op .t (.ld (xr 11) 1 false) (some 12) (some (7, false)) (.op .t (.bin .gtr (xr 10) (xr 12)) (some 13) (some (7, false)) (xt (.pick (xr 7) (.const (.bool true)) (xr 13)) 14 (xt (.mv (xr 14)) 3 .done))))))))))))) .ret))
theorem ic72_ok : Tryz.f72.body.bind (trC Tryz.prog []) = some ic72 := by kernel_rfl
def fr72 : List FR := [(FR.t 3)]
theorem fr72_ok : fres Tryz.prog Tryz.f72.results.toList = some fr72 := by kernel_rfl
set_option maxHeartbeats 200000
theorem any_take {α : Type} {p : α → Bool} {l : List α} {i : Nat} {x : α} (hx : l[i]? = some x) (ht : (l.take i).any p = false) (hp : p x = false) : (l.take (i + 1)).any p = false := by
  rw [List.take_add_one, List.any_append, ht, hx]; simp [hp]
theorem any_of {α : Type} {p : α → Bool} {l : List α} {i : Nat} {x : α} (hx : l[i]? = some x) (hp : p x = true) : l.any p = true := List.any_eq_true.2 ⟨x, List.mem_of_getElem? hx, hp⟩
def datP (p : Part) : List Int := p.data
theorem indexP {p : Part → Bool} {fn : FuncId} {caps : List Value} {l : List Part} {A : Option Addr} {c : Nat} {cs : List Value} {z : Zc} (he : Els pRep z l cs) (hr : RdAt z A 0 cs) (hl : l.length ≤ 1000000000) (hok : callOk Tryz.prog fn = true)
    (hf : ∀ x ∈ l, ∀ v, By z (datP x) v → PSpec Tryz.prog fn ([vPart x v] ++ caps) z fun u z' => u = .bool (p x) ∧ z = z') :
    PSpec Tryz.prog 97 [.slice A l.length c, .func (.func fn) #[] caps.toArray] z fun v z' => (∃ i : Int, v = .int .i64 i ∧ decide (0 ≤ i) = l.any p) ∧ z = z' := by
  (refine pspec_enter Tryz.func97 ic97_ok fr97_ok Tryz.ntmps97 ?_; simp only [seval, go_sem, ic97, fr97])
  ((try simp only [seval, go_sem]);repeat((with_reducible first|refine vJ ?_|refine vK ?_);try simp only [seval, go_sem]))
  refine loop_upd (ι := Nat) (n := 0) (fun i => i ≤ l.length ∧ (l.take i).any p = false) (fun i => [(8, .c (.v (.int .i64 i)))]) (fun _ => []) (fun _ => z) (fun i => l.length - i) 0 (by simp) (by (simp only [wrI, wrR, anyL, st, List.append_nil, List.nil_append, List.cons_append]); exact rfl) ?_ ?_
  · (refine Le.of ?_ ?_ rfl ?_ ⟨rfl, rfl⟩; rotate_left; (repeat (first | exact trivial | refine ⟨rfl, ?_⟩)); (first | exact Nat.le_refl _ | decide | (dsimp only; omega)); (simp (disch := omega) only [LeT, updL, st, reduceCtorEq, true_or, or_true, false_or, and_true, true_and, SV.c.injEq, SC.v.injEq, Value.int.injEq, Value.slice.injEq, wrap_in, Int.natCast_add, Int.natCast_one, Int.natCast_zero, Int.cast_ofNat_Int]) <;> (try (repeat' constructor)) <;> (first | rfl | omega))
  · rintro i ⟨hi, ht⟩
    ((try simp only [seval, go_sem]);repeat((with_reducible first|refine vJ ?_|refine vK ?_);try simp only [seval, go_sem]))
    (with_reducible refine condI.split (fun hg => ?_) (fun hg => ?_) <;> (try simp only [hg]) <;> (try simp only [seval, go_sem]))
    · ((try simp only [seval, go_sem]);repeat((with_reducible first|refine vJ ?_|refine vK ?_);try simp only [seval, go_sem]))
      have hi' : i < l.length := by simp at hg; omega
      obtain ⟨x, hx⟩ : ∃ x, l[i]? = some x := ⟨_, List.getElem?_eq_getElem hi'⟩
      obtain ⟨c1, ⟨v, rfl, hb⟩, hr1⟩ := he.at hr hx
      (refine ⟨⟨by omega, by omega, he.isAt hr (by decide) hi'⟩, ?_⟩; (try simp only [seval, go_sem]))
      (refine ldF.agg _ rfl (by first | exact .inl hr1 | exact hr1) ?_; (try simp only [seval, go_sem]))
      ((try with_reducible refine othM.toT ?_); refine oth_call rfl hok rfl rfl (hf x (List.mem_of_getElem? hx) v hb) ?_; rintro _ _ - ⟨rfl, rfl⟩; ((try simp only [seval, go_sem]);repeat((with_reducible first|refine vJ ?_|refine vK ?_);try simp only [seval, go_sem])))
      (with_reducible refine condI.split (fun hg => ?_) (fun hg => ?_) <;> (try simp only [hg]) <;> (try simp only [seval, go_sem]))
      · ((try simp only [seval, go_sem]);repeat((with_reducible first|refine vJ ?_|refine vK ?_);try simp only [seval, go_sem]))
        (((try simp only [seval, go_sem]);repeat((with_reducible first|refine vJ ?_|refine vK ?_);try simp only [seval, go_sem])); with_reducible refine FinV.of ?_; simp only [finE, finS, gt, look, SV.toV, SC.toV, allV, tupV, zq1, zq2, zq3, zq4, Nat.reduceAdd, Nat.reduceEqDiff, reduceCtorEq, if_true, if_false, reduceIte, Nat.succ_ne_self, true_and, zq5, zq7, zq8])
        simp [any_of hx hg]
      · ((try simp only [seval, go_sem]);repeat((with_reducible first|refine vJ ?_|refine vK ?_);try simp only [seval, go_sem]))
        refine ⟨i + 1, ⟨by omega, any_take hx ht hg⟩, by omega, ?_⟩
        (refine Le.of ?_ ?_ rfl ?_ ⟨rfl, rfl⟩; rotate_left; (repeat (first | exact trivial | refine ⟨rfl, ?_⟩)); (first | exact Nat.le_refl _ | decide | (dsimp only; omega)); (simp (disch := omega) only [LeT, updL, st, reduceCtorEq, true_or, or_true, false_or, and_true, true_and, SV.c.injEq, SC.v.injEq, Value.int.injEq, Value.slice.injEq, wrap_in, Int.natCast_add, Int.natCast_one, Int.natCast_zero, Int.cast_ofNat_Int]) <;> (try (repeat' constructor)) <;> (first | rfl | omega))
    · ((try simp only [seval, go_sem]);repeat((with_reducible first|refine vJ ?_|refine vK ?_);try simp only [seval, go_sem]))
      (((try simp only [seval, go_sem]);repeat((with_reducible first|refine vJ ?_|refine vK ?_);try simp only [seval, go_sem])); with_reducible refine FinV.of ?_; simp only [finE, finS, gt, look, SV.toV, SC.toV, allV, tupV, zq1, zq2, zq3, zq4, Nat.reduceAdd, Nat.reduceEqDiff, reduceCtorEq, if_true, if_false, reduceIte, Nat.succ_ne_self, true_and, zq5, zq7, zq8])
      have : i = l.length := by simp at hg; omega
      subst this
      simp at ht
      simpa using ht
theorem containsP {p : Part → Bool} {fn : FuncId} {caps : List Value} {l : List Part} {A : Option Addr} {c : Nat} {cs : List Value} {z : Zc} (he : Els pRep z l cs) (hr : RdAt z A 0 cs) (hl : l.length ≤ 1000000000) (hok : callOk Tryz.prog fn = true)
    (hf : ∀ x ∈ l, ∀ v, By z (datP x) v → PSpec Tryz.prog fn ([vPart x v] ++ caps) z fun u z' => u = .bool (p x) ∧ z = z') :
    PSpec Tryz.prog 71 [.slice A l.length c, .func (.func fn) #[] caps.toArray] z fun v z' => v = .bool (l.any p) ∧ z = z' := by
  (refine pspec_enter Tryz.func71 ic71_ok fr71_ok Tryz.ntmps71 ?_; simp only [seval, go_sem, ic71, fr71])
  ((try simp only [seval, go_sem]);repeat((with_reducible first|refine vJ ?_|refine vK ?_);try simp only [seval, go_sem]))
  (try with_reducible refine callM.toT ?_); refine callP (indexP he hr hl hok hf) rfl rfl ?_; rintro _ _ - ⟨⟨i, rfl, hi⟩, rfl⟩; ((try simp only [seval, go_sem]);repeat((with_reducible first|refine vJ ?_|refine vK ?_);try simp only [seval, go_sem]))
  (((try simp only [seval, go_sem]);repeat((with_reducible first|refine vJ ?_|refine vK ?_);try simp only [seval, go_sem])); with_reducible refine FinV.of ?_; simp only [finE, finS, gt, look, SV.toV, SC.toV, allV, tupV, zq1, zq2, zq3, zq4, Nat.reduceAdd, Nat.reduceEqDiff, reduceCtorEq, if_true, if_false, reduceIte, Nat.succ_ne_self, true_and, zq5, zq7, zq8])
  simp [← hi]
theorem partsok1 (c : Cfg) (b : Nat) (p : Part) (v : Value) (z : Zc) (hr : RdAt z (some ⟨b, 0, none⟩) 0 [.int .i64 c.mode, .int .i64 c.win, .int .i64 c.mps, .int .i64 c.mtu, .int .i64 c.tri]) (hb : By z p.data v) (hl : p.data.length ≤ 1000000000) :
    PSpec Tryz.prog 72 ([vPart p v] ++ [.pointer (some ⟨b, 0, none⟩)]) z fun u z' => u = .bool (!(partOk p && decide ((p.data.length : Int) ≤ c.mps))) ∧ z = z' := by
  obtain ⟨A, k, rfl, hk, hB, hrb⟩ := hb.form
  (refine pspec_enter Tryz.func72 ic72_ok fr72_ok Tryz.ntmps72 ?_; simp only [seval, go_sem, ic72, fr72])
  (refine vsI.ptr ?_; ((try simp only [seval, go_sem]);repeat((with_reducible first|refine vJ ?_|refine vK ?_);try simp only [seval, go_sem])))
  (try with_reducible refine callM.toT ?_); refine callP (partok_i p A _ _ _ hl rfl) rfl rfl ?_; rintro _ _ - ⟨rfl, rfl⟩; ((try simp only [seval, go_sem]);repeat((with_reducible first|refine vJ ?_|refine vK ?_);try simp only [seval, go_sem]))
  (with_reducible refine guardR.split (fun hg => ?_) (fun hg => ?_) <;> (try simp only [hg]) <;> simp only [seval, go_sem])
  · ((try simp only [seval, go_sem]);repeat((with_reducible first|refine vJ ?_|refine vK ?_);try simp only [seval, go_sem]))
    (((try simp only [seval, go_sem]);repeat((with_reducible first|refine vJ ?_|refine vK ?_);try simp only [seval, go_sem])); with_reducible refine FinV.of ?_; simp only [finE, finS, gt, look, SV.toV, SC.toV, allV, tupV, zq1, zq2, zq3, zq4, Nat.reduceAdd, Nat.reduceEqDiff, reduceCtorEq, if_true, if_false, reduceIte, Nat.succ_ne_self, true_and, zq5, zq7, zq8])
    simp_all
  · ((try simp only [seval, go_sem]);repeat((with_reducible first|refine vJ ?_|refine vK ?_);try simp only [seval, go_sem]))
    (refine ldF.one _ (by first | exact .inl (hr.cell 2 rfl) | exact (hr.cell 2 rfl)) ?_; (try simp only [seval, go_sem]))
    (((try simp only [seval, go_sem]);repeat((with_reducible first|refine vJ ?_|refine vK ?_);try simp only [seval, go_sem])); with_reducible refine FinV.of ?_; simp only [finE, finS, gt, look, SV.toV, SC.toV, allV, tupV, zq1, zq2, zq3, zq4, Nat.reduceAdd, Nat.reduceEqDiff, reduceCtorEq, if_true, if_false, reduceIte, Nat.succ_ne_self, true_and, zq5, zq7, zq8])
    simp [hg, ← decide_not, Int.not_le]
theorem partsok_i (c : Cfg) (l : List Part) (v : Value) (z : Zc) (h : Sl pRep z l v) (hl : l.length ≤ 1000000000) (hp : ∀ p ∈ l, p.data.length ≤ 1000000000) :
    PSpec Tryz.prog 41 [vCfg c, v] z fun u z' => u = .bool (partsOk c l) := by
  obtain ⟨A, k, cs, rfl, hk, he, hr⟩ := h
  (refine pspec_enter Tryz.func41 ic41_ok fr41_ok Tryz.ntmps41 ?_; simp only [seval, go_sem, ic41, fr41])
  (refine vsI.frz 0 rfl rfl rfl (fun b z1 hz1 hr1 => ?_)); simp only [seval, go_sem, Go.Proofs.YtpjaidjnamngaaaGreat.frz, subV, subC, subE, subL]; ((try simp only [seval, go_sem]);repeat((with_reducible first|refine vJ ?_|refine vK ?_);try simp only [seval, go_sem]))
  ((try with_reducible refine othM.toT ?_); refine oth_makeFunc rfl ?_; ((try simp only [seval, go_sem]);repeat((with_reducible first|refine vJ ?_|refine vK ?_);try simp only [seval, go_sem])))
  (try with_reducible refine callM.toT ?_); refine callP (containsP (p := fun p => !(partOk p && decide ((p.data.length : Int) ≤ c.mps))) (caps := [.pointer (some ⟨b, 0, none⟩)]) (he.mono hz1) (hr.mono hz1) hl (by kernel_rfl) (fun x hx v hv => partsok1 c b x v z1 hr1 hv (hp x hx))) rfl rfl ?_; rintro _ _ - ⟨rfl, rfl⟩; ((try simp only [seval, go_sem]);repeat((with_reducible first|refine vJ ?_|refine vK ?_);try simp only [seval, go_sem]))
  (((try simp only [seval, go_sem]);repeat((with_reducible first|refine vJ ?_|refine vK ?_);try simp only [seval, go_sem])); with_reducible refine FinV.of ?_; simp only [finE, finS, gt, look, SV.toV, SC.toV, allV, tupV, zq1, zq2, zq3, zq4, Nat.reduceAdd, Nat.reduceEqDiff, reduceCtorEq, if_true, if_false, reduceIte, Nat.succ_ne_self, true_and, zq5, zq7, zq8])
  simp [partsOk, List.all_eq_not_any_not]
end Go.Proofs.YtpjaidjnamngaaaGreat
