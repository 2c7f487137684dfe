/- Pieces, by the program and by its reference. · Pieces put together; lists copied. · Lists looked through, and copied. · Codes of functions, group Crd. · Credits: what is ok, copies. -/
import Derived.Test.YtllafcmkppmdgaaGreatB7
import Derived.Test.YtllafcmkppmdgaaGreatB6
import Derived.Test.YtllafcmkppmdgaaGreatProg
namespace Go.Proofs.YtllafcmkppmdgaaGreat
open Go.RowKit
set_option linter.unusedVariables false
set_option linter.unusedSimpArgs false
set_option maxRecDepth 100000
set_option maxHeartbeats 1000000
theorem loopV.tf {P : Program} {ic : IC} {s s' : St} {K : Exit → St → Prop} (t : Tf s s') (h : loopV P ic s' K) : loopV P ic s K := fun pl c hc C ρ a w hs => h pl c hc C ρ a w (t.sat hs)
structure SegS where
 a : Nat
 f : Nat
 pre : List Part
 n : Nat
 v : Value
 cs : List Value
 z : Zc
def SegS.I (z0 : Zc) (sdu : List Int) (most : Nat) (s : SegS) : Prop := z0 ≤ s.z ∧ s.pre ++ segGo sdu most s.f s.a = segGo sdu most sdu.length 0 ∧ sdu.length - s.a ≤ s.f ∧ s.a ≤ sdu.length + most ∧ s.n = s.pre.length ∧ s.n ≤ 24 ∧ Els pRep s.z s.pre s.cs
theorem segCut_i (sdu : List Int) (most : Int) (v : Value) (z : Zc) (h : By z sdu v) (hl : sdu.length ≤ 100000) (hm : -100000 ≤ most ∧ most ≤ 100000) : PSpec Tryz.prog 162 [v, .int .i64 most] z fun v z' => Sl pRep z' (segCut sdu most) v := by
 obtain ⟨A, c, rfl, hc, hB, hr⟩ := h.form
 refine eP k162 ?_
 refine gO ?_
 (with_reducible refine guardR.split (fun hg => ?_) (fun hg => ?_) <;> (try simp only [hg]) <;> simp only [seval, go_sem])
 ·(first|refine fN ?_|exact fZ)
  simp at hg
  rw [show segCut sdu most = [] by unfold segCut; rw [if_pos (by omega)]]
  exact Sl.nil _ _ _
 ·refine tT ?_; refine callP (in_i most 1 8 z) rfl rfl ?_; rintro _ _ - ⟨rfl, rfl⟩; refine gO ?_
  (with_reducible refine condI.split (fun hg => ?_) (fun hg => ?_) <;> (try simp only [hg]) <;> (try simp only [seval, go_sem]))
  ·(first|refine fN ?_|exact fZ)
   simp only [Bool.not_eq_true', inB_no] at hg
   rw [show segCut sdu most = [] by unfold segCut; rw [if_pos (by omega)]]
   exact Sl.nil _ _ _
  ·rename_i hg24
   simp only [Bool.not_eq_false', inB_iff, decide_eq_false_iff_not] at hg hg24
   refine gO ?_
   (with_reducible refine condI.split (fun hg => ?_) (fun hg => ?_) <;> (try simp only [hg]) <;> (try simp only [seval, go_sem]))
   ·refine gO ?_
    refine tT ?_; refine callP (cloneBy sdu _ z h (by omega)) rfl rfl ?_; rintro v z1 hz1 ⟨A1, rfl, hB1, hr1⟩; refine gO ?_
    (refine FinV.frz 0 rfl rfl (fun b z2 hz2 hr2 => ?_)); dsimp only at hz2; simp only [seval, go_sem, Go.Proofs.YtllafcmkppmdgaaGreat.frz, subV, subC, subE, subL]
    (first|refine fN ?_|exact fZ)
    simp at hg
    rw [show segCut sdu most = [⟨0, sdu.length, sdu⟩] by unfold segCut; rw [if_neg (by omega), if_pos (by omega)]]
    exact ⟨_, _, _, rfl, Nat.le_refl _, Els.single ⟨_, rfl, By.mk (Nat.le_refl _) hB1 (hr1.mono hz2)⟩, hr2⟩
   ·refine gO ?_
    have hlm : most < sdu.length := by simp at hg; omega
    refine loopV.tf (Tf.nilRow 90 109 3 rfl) ?_
    refine loop_upd (ι := SegS) (n := 0) (fun i => i.I z sdu most.toNat) (fun i => [(7, .c (.v (.int .i64 i.a))), (6, .c (.v i.v))]) (fun i => [(90, .own (rowA 109 3 i.v i.n i.cs))]) (fun i => i.z) (fun i => sdu.length - i.a) ⟨0, sdu.length, [], 0, .slice none 0 0, [], z⟩ ⟨Zc.rfl' _, rfl, by simp, by simp, rfl, by simp, rfl⟩ (by (simp only [wrI, wrR, anyL, st, List.append_nil, List.nil_append, List.cons_append]); exact rfl) ?_ ?_
    ·exact lE
    ·rintro ⟨a, f, pre, n, v, cs, z1⟩ ⟨hz1, hpre, hf, ha, hn, h24, he⟩
     dsimp only at *
     refine gO ?_
     (with_reducible refine condI.split (fun hg => ?_) (fun hg => ?_) <;> (try simp only [hg]) <;> (try simp only [seval, go_sem]))
     ·have hat : a < sdu.length := by simp at hg; omega
      have w1 : IntKind.i64.wrap ((a : Int) + most) = ((a + most.toNat : Nat) : Int) := by rw [wrap_in (by omega) (by omega)]; omega
      have w2 : (if ((a + most.toNat : Nat) : Int) < (sdu.length : Int) then ((a + most.toNat : Nat) : Int) else (sdu.length : Int)) = ((min sdu.length (a + most.toNat) : Nat) : Int) := by split <;> omega
      have hp : By z1 ((sdu.drop a).take most.toNat) (.slice (cutA A c a 1) (min sdu.length (a + most.toNat) - a) (c - a)) := by
       have := ((h.mono hz1).drop (k := a)).take (k := min sdu.length (a + most.toNat) - a) (c' := c - a) (by rw [List.length_drop]; omega) (by omega)
       rwa [show (sdu.drop a).take (min sdu.length (a + most.toNat) - a) = (sdu.drop a).take most.toNat by
        rw [List.take_eq_take_iff, List.length_drop]; omega] at this
      refine gO ?_
      simp only [w1, w2]
      refine ⟨by omega, ?_⟩; refine gO ?_
      refine tT ?_; refine callP (cloneBy _ _ z1 hp (by simp; omega)) rfl rfl ?_; rintro v2 z2 hz2 ⟨A2, rfl, hB2, hr2⟩; refine gO ?_
      have hlen : ((sdu.drop a).take most.toNat).length = min sdu.length (a + most.toNat) - a := by simp; omega
      have hby : By z2 ((sdu.drop a).take most.toNat) (.slice A2 ((sdu.drop a).take most.toNat).length ((sdu.drop a).take most.toNat).length) := By.mk (Nat.le_refl _) hB2 hr2
      have hgo : segGo sdu most.toNat f a = segAt sdu most.toNat a :: segGo sdu most.toNat (f - 1) (a + most.toNat) := by
       obtain ⟨f', rfl⟩ : ∃ f', f = f' + 1 := ⟨f - 1, by omega⟩
       rw [segGo, if_pos hat]; simp
      have hplen : pre.length + 1 ≤ 24 := by
       have := segCut_length sdu most
       unfold segCut at this
       rw [if_neg (by omega), if_neg (by omega), ← hpre, hgo] at this
       simp at this; omega
      have key : ∀ (s l : Int) (v3 : Value), (segAt sdu most.toNat a).seg = s → (segAt sdu most.toNat a).len = l → (⟨a + most.toNat, f - 1, pre ++ [segAt sdu most.toNat a], n + 1, v3, cs ++ [.int .i64 s, .int .i64 l, .slice A2 ((sdu.drop a).take most.toNat).length ((sdu.drop a).take most.toNat).length], z2⟩ : SegS).I z sdu most.toNat := fun s l v3 hs hl' =>
       ⟨Zc.trans' hz1 hz2, by dsimp only; rw [List.append_assoc, List.singleton_append, ← hgo]; exact hpre, by dsimp only; omega, by dsimp only; omega, by simp; omega, by dsimp only; omega, (he.mono hz2).append (Els.single ⟨_, by rw [hs, hl'], hby⟩)⟩
      (with_reducible refine condI.split (fun hg => ?_) (fun hg => ?_) <;> (try simp only [hg]) <;> (try simp only [seval, go_sem]))
      ·have h0 : a = 0 := by simp at hg; omega
       refine gO ?_
       refine aT ?_; (refine appM_new 90 atyP rfl rfl rfl rfl rfl rfl rfl (by simp [Value.oneCell']) (by omega) (fun v3 => ?_)); refine gO ?_
       refine ⟨_, key 1 sdu.length v3 (by simp [segAt, h0]) (by simp [segAt, h0]), by dsimp only; omega, ?_⟩
       rw [w1]
       exact lE
      ·have h0 : a ≠ 0 := by simp at hg; omega
       refine gO ?_
       (with_reducible refine condI.split (fun hg => ?_) (fun hg => ?_) <;> (try simp only [hg]) <;> (try simp only [seval, go_sem]))
       ·refine gO ?_
        refine aT ?_; (refine appM_new 90 atyP rfl rfl rfl rfl rfl rfl rfl (by simp [Value.oneCell']) (by omega) (fun v3 => ?_)); refine gO ?_
        rw [w1] at hg
        refine ⟨_, key 3 0 v3 (by simp at hg; simp [segAt, h0]; omega) (by simp [segAt, h0]), by dsimp only; omega, ?_⟩
        rw [w1]
        exact lE
       ·refine gO ?_
        refine aT ?_; (refine appM_new 90 atyP rfl rfl rfl rfl rfl rfl rfl (by simp [Value.oneCell']) (by omega) (fun v3 => ?_)); refine gO ?_
        rw [w1] at hg
        refine ⟨_, key 2 0 v3 (by simp at hg; simp [segAt, h0]; omega) (by simp [segAt, h0]), by dsimp only; omega, ?_⟩
        rw [w1]
        exact lE
     ·refine gO ?_
      (first | refine callT.frzR 90 rfl (fun A2 c2 z2 hv2 hc2 hz2 hr2 => ?_) | refine callM.frzR 90 rfl (fun A2 c2 z2 hv2 hc2 hz2 hr2 => ?_)); dsimp only at hz2; subst hv2; simp only [seval, go_sem]
      have hel := (he.mono hz2)
      refine tT ?_; refine callP (cloneP A2 n c2 cs z2 hr2 (by rw [hel.length, hn]; rfl) hel.one (by omega)) rfl rfl ?_; rintro v3 z3 hz3 ⟨A3, rfl, hr3⟩; refine gO ?_
      (first|refine fN ?_|exact fZ)
      have hcut : segCut sdu most = pre := by
       unfold segCut
       rw [if_neg (by omega), if_neg (by omega), ← hpre]
       cases f with
       | zero => simp [segGo]
       | succ f => rw [segGo, if_neg (by simp at hg; omega)]; simp
      rw [hcut, hn]
      exact ⟨_, _, _, rfl, Nat.le_refl _, hel.mono hz3, hr3⟩
theorem loopV.toRow {P : Program} {ic : IC} {s : St} {K : Exit → St → Prop} (k j : Nat) {e sz m : Nat} {cs : List SC} {vs : List Value} (hk : look j s.L = some (.cells e cs)) (hv : allV cs = some vs) (hl : vs.length = m * sz) (hm : m ≤ 1000000000) (h : ∀ b, loopV P ic (rowSt s k j b e sz m vs) K) : loopV P ic s K := fun pl c hc C ρ a w hs => by
 obtain ⟨b, _, hs'⟩ := hs.toRow k j hk hv hl hm
 exact h b pl c hc C ρ a w hs'
theorem segCut_s (sdu : List Int) (most : Int) (v : Value) (z : Zc) (h : By z sdu v) (hl : sdu.length ≤ 100000) (hm : -100000 ≤ most ∧ most ≤ 100000) : PSpec Tryz.prog 149 [v, .int .i64 most] z fun v z' => Sl pRep z' (segCut sdu most) v := by
 obtain ⟨A, c, rfl, hc, hB, hr⟩ := h.form
 refine eP k149 ?_
 refine gO ?_
 (with_reducible refine guardR.split (fun hg => ?_) (fun hg => ?_) <;> (try simp only [hg]) <;> simp only [seval, go_sem])
 ·refine gO ?_
  (refine FinV.frz 0 rfl rfl (fun b z1 hz1 hr1 => ?_)); dsimp only at hz1; simp only [seval, go_sem, Go.Proofs.YtllafcmkppmdgaaGreat.frz, subV, subC, subE, subL]
  (first|refine fN ?_|exact fZ)
  simp at hg
  rw [show segCut sdu most = [] by unfold segCut; rw [if_pos (by omega)]]
  exact Sl.nil _ _ _
 ·refine tT ?_; refine callP (in_s most 1 8 z) rfl rfl ?_; rintro _ _ - ⟨rfl, rfl⟩; refine gO ?_
  (with_reducible refine condI.split (fun hg => ?_) (fun hg => ?_) <;> (try simp only [hg]) <;> (try simp only [seval, go_sem]))
  ·refine gO ?_
   (refine FinV.frz 0 rfl rfl (fun b z1 hz1 hr1 => ?_)); dsimp only at hz1; simp only [seval, go_sem, Go.Proofs.YtllafcmkppmdgaaGreat.frz, subV, subC, subE, subL]
   (first|refine fN ?_|exact fZ)
   simp only [Bool.not_eq_true', inB_no] at hg
   rw [show segCut sdu most = [] by unfold segCut; rw [if_pos (by omega)]]
   exact Sl.nil _ _ _
  ·rename_i hg24
   simp only [Bool.not_eq_false', inB_iff, decide_eq_false_iff_not] at hg hg24
   refine gO ?_
   (with_reducible refine condI.split (fun hg => ?_) (fun hg => ?_) <;> (try simp only [hg]) <;> (try simp only [seval, go_sem]))
   ·refine gO ?_
    refine aT ?_; (refine appM_empty 99 atyB rfl (by first | exact .inl ⟨_, rfl⟩ | exact .inr ⟨_, _, rfl⟩) rfl hr (by first | omega | (simp <;> omega)) (bc_one _) (by omega) (fun A1 c1 z1 hz1 hc1 hr1 => ?_)); dsimp only at hz1; refine gO ?_
    (refine appT.toRow 90 0 (m := 0) (sz := 3) rfl rfl rfl (by omega) (fun b => ?_)); simp only [seval, go_sem, rowSt, subV, subC, subE, subL]
    refine aT ?_; (refine appM_new 90 atyP rfl rfl rfl rfl rfl rfl rfl (by simp [Value.oneCell']) (by omega) (fun v3 => ?_)); refine gO ?_
    (refine FinV.frzR 90 rfl (fun A3 c3 z3 hv3 hc3 hz3 hr3 => ?_)); dsimp only at hz3; (try subst hv3); simp only [seval, go_sem]
    (first|refine fN ?_|exact fZ)
    simp at hg
    rw [show segCut sdu most = [⟨0, sdu.length, sdu⟩] by unfold segCut; rw [if_neg (by omega), if_pos (by omega)]]
    exact ⟨_, _, _, rfl, hc3, Els.single ⟨_, rfl, By.mk hc1 hB (hr1.mono hz3)⟩, hr3⟩
   ·refine gO ?_
    have hlm : most < sdu.length := by simp at hg; omega
    refine loopV.toRow 90 0 rfl rfl (m := 0) (sz := 3) rfl (by omega) (fun b0 => ?_)
    simp only [seval, go_sem, rowSt, subV, subC, subE, subL]
    refine loop_upd (ι := SegS) (n := 1) (fun i => i.I z sdu most.toNat) (fun i => [(6, .c (.v (.int .i64 i.a))), (5, .c (.v i.v))]) (fun i => [(90, .own (rowA 109 3 i.v i.n i.cs))]) (fun i => i.z) (fun i => sdu.length - i.a) ⟨0, sdu.length, [], 0, .slice (some ⟨b0, 0, none⟩) 0 0, [], z⟩ ⟨Zc.rfl' _, rfl, by simp, by simp, rfl, by simp, rfl⟩ (by (simp only [wrI, wrR, anyL, st, List.append_nil, List.nil_append, List.cons_append]); exact rfl) ?_ ?_
    ·exact lE
    ·rintro ⟨a, f, pre, n, v, cs, z1⟩ ⟨hz1, hpre, hf, ha, hn, h24, he⟩
     dsimp only at *
     refine gO ?_
     (with_reducible refine condI.split (fun hg => ?_) (fun hg => ?_) <;> (try simp only [hg]) <;> (try simp only [seval, go_sem]))
     ·have hat : a < sdu.length := by simp at hg; omega
      have w1 : IntKind.i64.wrap ((a : Int) + most) = ((a + most.toNat : Nat) : Int) := by rw [wrap_in (by omega) (by omega)]; omega
      have w2 : (if ((a + most.toNat : Nat) : Int) < (sdu.length : Int) then ((a + most.toNat : Nat) : Int) else (sdu.length : Int)) = ((min sdu.length (a + most.toNat) : Nat) : Int) := by split <;> omega
      have w3 : (if (sdu.length : Int) < ((a + most.toNat : Nat) : Int) then (sdu.length : Int) else ((a + most.toNat : Nat) : Int)) = ((min sdu.length (a + most.toNat) : Nat) : Int) := by split <;> omega
      have hp : By z1 ((sdu.drop a).take most.toNat) (.slice (cutA A c a 1) (min sdu.length (a + most.toNat) - a) (c - a)) := by
       have := ((h.mono hz1).drop (k := a)).take (k := min sdu.length (a + most.toNat) - a) (c' := c - a) (by rw [List.length_drop]; omega) (by omega)
       rwa [show (sdu.drop a).take (min sdu.length (a + most.toNat) - a) = (sdu.drop a).take most.toNat by
        rw [List.take_eq_take_iff, List.length_drop]; omega] at this
      have hlen : ((sdu.drop a).take most.toNat).length = min sdu.length (a + most.toNat) - a := by simp; omega
      obtain ⟨A1, c1, hs1, hc1, hB1, hr1⟩ := hp.form
      have hs2 : cutA A c a 1 = A1 := by injection hs1
      rw [← hs2] at hr1
      rw [hlen] at hc1
      refine gO ?_
      simp only [w1, w2]
      refine ⟨by omega, ?_⟩; refine gO ?_
      refine aT ?_; (refine appM_empty 99 atyB rfl (by first | exact .inl ⟨_, rfl⟩ | exact .inr ⟨_, _, rfl⟩) rfl hr1 (by first | omega | (simp <;> omega)) (bc_one _) (by omega) (fun A2 c2 z2 hz2 hc2 hr2 => ?_)); dsimp only at hz2; refine gO ?_
      have hby : By z2 ((sdu.drop a).take most.toNat) (.slice A2 (min sdu.length (a + most.toNat) - a) c2) := by rw [← hlen]; exact By.mk (by rw [hlen]; exact hc2) hB1 hr2
      have hgo : segGo sdu most.toNat f a = segAt sdu most.toNat a :: segGo sdu most.toNat (f - 1) (a + most.toNat) := by
       obtain ⟨f', rfl⟩ : ∃ f', f = f' + 1 := ⟨f - 1, by omega⟩
       rw [segGo, if_pos hat]; simp
      have hplen : pre.length + 1 ≤ 24 := by
       have := segCut_length sdu most
       unfold segCut at this
       rw [if_neg (by omega), if_neg (by omega), ← hpre, hgo] at this
       simp at this; omega
      have key : ∀ (s l : Int) (v3 : Value), (segAt sdu most.toNat a).seg = s → (segAt sdu most.toNat a).len = l → (⟨a + most.toNat, f - 1, pre ++ [segAt sdu most.toNat a], n + 1, v3, cs ++ [.int .i64 s, .int .i64 l, .slice A2 (min sdu.length (a + most.toNat) - a) c2], z2⟩ : SegS).I z sdu most.toNat := fun s l v3 hs hl' =>
       ⟨Zc.trans' hz1 hz2, by dsimp only; rw [List.append_assoc, List.singleton_append, ← hgo]; exact hpre, by dsimp only; omega, by dsimp only; omega, by simp; omega, by dsimp only; omega, (he.mono hz2).append (Els.single ⟨_, by rw [hs, hl'], hby⟩)⟩
      (with_reducible refine condI.split (fun hg => ?_) (fun hg => ?_) <;> (try simp only [hg]) <;> (try simp only [seval, go_sem]))
      ·have h0 : a = 0 := by simp at hg; omega
       refine gO ?_
       (with_reducible refine guardR.split (fun hg => ?_) (fun hg => ?_) <;> (try simp only [hg]) <;> simp only [seval, go_sem])
       ·exfalso; simp at hg; omega
       ·refine gO ?_
        refine aT ?_; (refine appM_new 90 atyP rfl rfl rfl rfl rfl rfl rfl (by simp [Value.oneCell']) (by omega) (fun v3 => ?_)); refine gO ?_
        refine ⟨_, key 1 sdu.length v3 (by simp [segAt, h0]) (by simp [segAt, h0]), by dsimp only; omega, ?_⟩
        rw [w1]
        exact lE
      ·have h0 : a ≠ 0 := by simp at hg; omega
       refine gO ?_
       (with_reducible refine guardR.split (fun hg => ?_) (fun hg => ?_) <;> (try simp only [hg]) <;> simp only [seval, go_sem])
       ·refine gO ?_
        (with_reducible refine condI.split (fun hg => ?_) (fun hg => ?_) <;> (try simp only [hg]) <;> (try simp only [seval, go_sem]))
        ·refine gO ?_
         refine aT ?_; (refine appM_new 90 atyP rfl rfl rfl rfl rfl rfl rfl (by simp [Value.oneCell']) (by omega) (fun v3 => ?_)); refine gO ?_
         rw [w1] at hg
         refine ⟨_, key 3 0 v3 (by simp at hg; simp [segAt, h0]; omega) (by simp [segAt, h0]), by dsimp only; omega, ?_⟩
         rw [w1]
         exact lE
        ·refine gO ?_
         refine aT ?_; (refine appM_new 90 atyP rfl rfl rfl rfl rfl rfl rfl (by simp [Value.oneCell']) (by omega) (fun v3 => ?_)); refine gO ?_
         rw [w1] at hg
         refine ⟨_, key 2 0 v3 (by simp at hg; simp [segAt, h0]; omega) (by simp [segAt, h0]), by dsimp only; omega, ?_⟩
         rw [w1]
         exact lE
       ·exfalso; simp at hg; omega
     ·refine gO ?_
      (refine FinV.frzR 90 rfl (fun A2 c2 z2 hv2 hc2 hz2 hr2 => ?_)); dsimp only at hz2; (try subst hv2); simp only [seval, go_sem]
      (first|refine fN ?_|exact fZ)
      have hcut : segCut sdu most = pre := by
       unfold segCut
       rw [if_neg (by omega), if_neg (by omega), ← hpre]
       cases f with
       | zero => simp [segGo]
       | succ f => rw [segGo, if_neg (by simp at hg; omega)]; simp
      rw [hcut, hn]
      exact ⟨_, _, _, rfl, by omega, he.mono hz2, hr2⟩
theorem bc_append (l m : List Int) : bc l ++ bc m = bc (l ++ m) := by simp [bc]
theorem segPut_all {j : Join} {p : Part} (h0 : p.seg = 0) (h1 : j.len = 0) : segPut j p = (join0, j.got ++ p.data, 2) := by unfold segPut; rw [if_pos ⟨h0, h1⟩]
theorem segPut_start {j : Join} {p : Part} (h0 : p.seg = 1) (h1 : j.len = 0) : segPut j p = (⟨p.len, j.got ++ p.data⟩, [], 1) := by unfold segPut; rw [if_neg (by omega), if_pos ⟨h0, h1⟩]
theorem segPut_more {j : Join} {p : Part} (h0 : p.seg = 2) (h1 : j.len > 0) (h2 : ((j.got ++ p.data).length : Int) < j.len) : segPut j p = (⟨j.len, j.got ++ p.data⟩, [], 1) := by unfold segPut; rw [if_neg (by omega), if_neg (by omega), if_pos ⟨h0, h1, h2⟩]
theorem segPut_end {j : Join} {p : Part} (h0 : p.seg = 3) (h1 : j.len > 0) (h2 : ((j.got ++ p.data).length : Int) = j.len) : segPut j p = (join0, j.got ++ p.data, 2) := by unfold segPut; rw [if_neg (by omega), if_neg (by omega), if_neg (by omega), if_pos ⟨h0, h1, h2⟩]
theorem segPut_bad {j : Join} {p : Part} (h0 : ¬ (p.seg = 0 ∧ j.len = 0)) (h1 : ¬ (p.seg = 1 ∧ j.len = 0)) (h2 : ¬ (p.seg = 2 ∧ j.len > 0 ∧ ((j.got ++ p.data).length : Int) < j.len)) (h3 : ¬ (p.seg = 3 ∧ j.len > 0 ∧ ((j.got ++ p.data).length : Int) = j.len)) : segPut j p = (join0, [], 3) := by unfold segPut; rw [if_neg h0, if_neg h1, if_neg h2, if_neg h3]
theorem put_i (j : Join) (p : Part) (v u : Value) (z : Zc) (hv : By z j.got v) (hu : By z p.data u) (hl : j.got.length ≤ 100000) (hp : p.data.length ≤ 100000) : PSpec Tryz.prog 174 [vJoin j v, vPart p u] z fun r z' => ∃ v' w', r = .tuple #[vJoin (segPut j p).1 v', w', .int .i64 (segPut j p).2.2] ∧ By z' (segPut j p).1.got v' ∧ By z' (segPut j p).2.1 w' := by
 obtain ⟨A, c, rfl, hc, hB, hr⟩ := hv.form
 obtain ⟨A2, c2, rfl, hc2, hB2, hr2⟩ := hu.form
 refine eP k174 ?_
 refine gO ?_
 refine tT ?_; refine callP (cloneBy j.got _ z hv (by omega)) rfl rfl ?_; rintro v1 z1 hz1 ⟨A3, rfl, _, hr3⟩; refine gO ?_
 refine aT ?_; (refine appM_fullR 99 atyB rfl rfl (hr3) (by first | omega | (simp <;> omega)) rfl (hr2.mono hz1) (by first | omega | (simp <;> omega)) (bc_one _) (by omega) (fun A4 c4 z4 hz4 hc4 hr4 => ?_)); dsimp only at hz4; refine gO ?_
 rw [bc_append] at hr4
 have h4 : By z4 (j.got ++ p.data) (.slice A4 (j.got.length + p.data.length) c4) := by
  rw [← List.length_append]; exact By.mk (by rw [List.length_append]; exact hc4) (hB.append hB2) hr4
 refine tT ?_; refine callP (cloneBy (j.got ++ p.data) _ z4 h4 (by rw [List.length_append]; omega)) rfl rfl ?_; rintro v5 z5 hz5 ⟨A5, rfl, hB5, hr5⟩; refine gO ?_
 have h5 : By z5 (j.got ++ p.data) (.slice A5 (j.got ++ p.data).length (j.got ++ p.data).length) := By.mk (Nat.le_refl _) hB5 hr5
 (try simp only [seval, go_sem]); repeat' (first | (with_reducible refine vsI.id ?_; (try simp only [seval, go_sem])) | (with_reducible refine vcI_cond ?_; (try simp only [seval, go_sem])) | (with_reducible refine guardR.split (fun hg => ?_) (fun hg => ?_) <;> (try simp only [hg]) <;> simp only [seval, go_sem]) | (with_reducible refine condI.split (fun hg => ?_) (fun hg => ?_) <;> (try simp only [hg]) <;> (try simp only [seval, go_sem])) | (with_reducible refine callM.toT ?_))
 all_goals (first|refine fN ?_|exact fZ)
 all_goals simp only [beq_iff_eq, decide_eq_true_eq, decide_eq_false_iff_not, beq_eq_false_iff_ne, ne_eq] at *
 all_goals first
  | (exfalso; omega)
  | (rw [segPut_all (by omega) (by omega)]; exact ⟨_, _, rfl, Sl.nil _ _ _, h5⟩)
  | (rw [segPut_start (by omega) (by omega)]; exact ⟨_, _, rfl, h5, Sl.nil _ _ _⟩)
  | (rw [segPut_more (by omega) (by omega) (by omega)]; exact ⟨_, _, rfl, h5, Sl.nil _ _ _⟩)
  | (rw [segPut_end (by omega) (by omega) (by omega)]; exact ⟨_, _, rfl, Sl.nil _ _ _, h5⟩)
  | (rw [segPut_bad (by omega) (by omega) (by omega) (by omega)]; exact ⟨_, _, rfl, Sl.nil _ _ _, Sl.nil _ _ _⟩)
theorem l4bad (z : Zc) : PSpec Tryz.prog 179 [] z fun r z' => ∃ A c, r = .tuple #[.agg #[.int .i64 0, .slice none 0 0], .slice A 0 c, .int .i64 3] := by
 refine eP k179 ?_
 refine gO ?_
 (refine FinV.frz 1 rfl rfl (fun b z1 hz1 hr1 => ?_)); dsimp only at hz1; simp only [seval, go_sem, Go.Proofs.YtllafcmkppmdgaaGreat.frz, subV, subC, subE, subL]
 (first|refine fN ?_|exact fZ)
 exact ⟨_, _, rfl⟩
theorem put_s (j : Join) (p : Part) (v u : Value) (z : Zc) (hv : By z j.got v) (hu : By z p.data u) (hl : j.got.length ≤ 100000) (hp : p.data.length ≤ 100000) (hj : 0 ≤ j.len) (hs : 0 ≤ p.seg ∧ p.seg ≤ 3) : PSpec Tryz.prog 171 [vJoin j v, vPart p u] z fun r z' => ∃ v' w', r = .tuple #[vJoin (segPut j p).1 v', w', .int .i64 (segPut j p).2.2] ∧ By z' (segPut j p).1.got v' ∧ By z' (segPut j p).2.1 w' := by
 obtain ⟨A, c, rfl, hc, hB, hr⟩ := hv.form
 obtain ⟨A2, c2, rfl, hc2, hB2, hr2⟩ := hu.form
 refine eP k171 ?_
 refine gO ?_
 have hN : (j.got ++ p.data).length = j.got.length + p.data.length := List.length_append
 by_cases hg0 : j.got.length = 0
 ·have hgn : j.got = [] := List.eq_nil_of_length_eq_zero hg0
  simp only [hg0]
  refine aT ?_; (refine appM_zero atyB (by first | exact .inl ⟨_, _, _, Nat.le_refl _, rfl⟩ | exact .inr ⟨_, _, rfl⟩) rfl ?_); refine gO ?_
  by_cases hp0 : p.data.length = 0
  ·have hpn : p.data = [] := List.eq_nil_of_length_eq_zero hp0
   simp only [hp0]
   refine aT ?_; (refine appM_zero atyB (by first | exact .inl ⟨_, _, _, Nat.le_refl _, rfl⟩ | exact .inr ⟨_, _, rfl⟩) rfl ?_); simp only [seval, go_sem]
   (refine vsI.frz 3 rfl rfl rfl (fun b4 z4 hz4 hr4 => ?_)); simp only [seval, go_sem, Go.Proofs.YtllafcmkppmdgaaGreat.frz, subV, subC, subE, subL]; refine gO ?_
   have h5 : By z4 (j.got ++ p.data) (.slice (some ⟨b4, 0, none⟩) 0 0) := by rw [hgn, hpn]; exact Sl.nil _ _ _
   (try simp only [seval, go_sem]); repeat' (first | (with_reducible refine vsI.id ?_; (try simp only [seval, go_sem])) | (with_reducible refine vcI_cond ?_; (try simp only [seval, go_sem])) | (with_reducible refine guardR.split (fun hg => ?_) (fun hg => ?_) <;> (try simp only [hg]) <;> simp only [seval, go_sem]) | (with_reducible refine condI.split (fun hg => ?_) (fun hg => ?_) <;> (try simp only [hg]) <;> (try simp only [seval, go_sem])) | (with_reducible refine callM.toT ?_))
   all_goals (try (refine tT ?_; refine callP (l4bad _) rfl rfl ?_; rintro r z1 hz1 ⟨w1, w2, rfl⟩; replace h5 := h5.mono hz1)); refine gO ?_
   all_goals (try ((refine FinV.frz 4 rfl rfl (fun b5 z5 hz5 hr5 => ?_)); dsimp only at hz5; simp only [seval, go_sem, Go.Proofs.YtllafcmkppmdgaaGreat.frz, subV, subC, subE, subL]; replace h5 := h5.mono hz5))
   all_goals (first|refine fN ?_|exact fZ)
   all_goals simp only [beq_iff_eq, decide_eq_true_eq, decide_eq_false_iff_not, beq_eq_false_iff_ne, bne_iff_ne, bne_eq_false_iff_eq, ne_eq, Bool.not_eq_true', Bool.not_eq_false'] at *
   all_goals first
    | (exfalso; omega)
    | (rw [segPut_all (by omega) (by omega)]; exact ⟨_, _, rfl, Sl.nil _ _ _, h5⟩)
    | (rw [segPut_start (by omega) (by omega)]; exact ⟨_, _, rfl, h5, Sl.nil _ _ _⟩)
    | (rw [segPut_more (by omega) (by omega) (by omega)]; exact ⟨_, _, rfl, h5, Sl.nil _ _ _⟩)
    | (rw [segPut_end (by omega) (by omega) (by omega)]; exact ⟨_, _, rfl, Sl.nil _ _ _, h5⟩)
    | (rw [segPut_bad (by omega) (by omega) (by omega) (by omega)]; exact ⟨_, _, rfl, Sl.nil _ _ _, Sl.nil _ _ _⟩)
  ·refine aT ?_; (refine appM_emptyO 90 atyB rfl (by first | exact .inl ⟨_, rfl⟩ | exact .inr ⟨_, _, rfl⟩) rfl (hr2) (by first | omega | (simp <;> omega)) (bc_one _) (by omega) (by omega) (fun A3 c3 hc3 => ?_)); simp only [seval, go_sem]
   (refine vsI.frzR 90 rfl rfl (fun A4 c4 z4 hv4 hc4 hz4 hr4 => ?_)); (first | subst hv4 | (injection hv4 with hv_1 hv_2 hv_3; subst hv_1; subst hv_3)); refine gO ?_
   have h5 : By z4 (j.got ++ p.data) (.slice A3 p.data.length c3) := by rw [hgn]; exact By.mk hc4 hB2 hr4
   (try simp only [seval, go_sem]); repeat' (first | (with_reducible refine vsI.id ?_; (try simp only [seval, go_sem])) | (with_reducible refine vcI_cond ?_; (try simp only [seval, go_sem])) | (with_reducible refine guardR.split (fun hg => ?_) (fun hg => ?_) <;> (try simp only [hg]) <;> simp only [seval, go_sem]) | (with_reducible refine condI.split (fun hg => ?_) (fun hg => ?_) <;> (try simp only [hg]) <;> (try simp only [seval, go_sem])) | (with_reducible refine callM.toT ?_))
   all_goals (try (refine tT ?_; refine callP (l4bad _) rfl rfl ?_; rintro r z1 hz1 ⟨w1, w2, rfl⟩; replace h5 := h5.mono hz1)); refine gO ?_
   all_goals (try ((refine FinV.frz 4 rfl rfl (fun b5 z5 hz5 hr5 => ?_)); dsimp only at hz5; simp only [seval, go_sem, Go.Proofs.YtllafcmkppmdgaaGreat.frz, subV, subC, subE, subL]; replace h5 := h5.mono hz5))
   all_goals (first|refine fN ?_|exact fZ)
   all_goals simp only [beq_iff_eq, decide_eq_true_eq, decide_eq_false_iff_not, beq_eq_false_iff_ne, bne_iff_ne, bne_eq_false_iff_eq, ne_eq, Bool.not_eq_true', Bool.not_eq_false'] at *
   all_goals first
    | (exfalso; omega)
    | (rw [segPut_all (by omega) (by omega)]; exact ⟨_, _, rfl, Sl.nil _ _ _, h5⟩)
    | (rw [segPut_start (by omega) (by omega)]; exact ⟨_, _, rfl, h5, Sl.nil _ _ _⟩)
    | (rw [segPut_more (by omega) (by omega) (by omega)]; exact ⟨_, _, rfl, h5, Sl.nil _ _ _⟩)
    | (rw [segPut_end (by omega) (by omega) (by omega)]; exact ⟨_, _, rfl, Sl.nil _ _ _, h5⟩)
    | (rw [segPut_bad (by omega) (by omega) (by omega) (by omega)]; exact ⟨_, _, rfl, Sl.nil _ _ _, Sl.nil _ _ _⟩)
 ·refine aT ?_; (refine appM_emptyO 90 atyB rfl (by first | exact .inl ⟨_, rfl⟩ | exact .inr ⟨_, _, rfl⟩) rfl (hr) (by first | omega | (simp <;> omega)) (bc_one _) (by omega) (by omega) (fun A3 c3 hc3 => ?_)); refine gO ?_
  refine aT ?_; (refine appM_row 90 atyB rfl rfl rfl rfl hr2 (by first | omega | simp) (bc_one _) (by omega) (fun v2 => ?_)); simp only [seval, go_sem]
  (refine vsI.frzR 90 rfl rfl (fun A4 c4 z4 hv4 hc4 hz4 hr4 => ?_)); (first | subst hv4 | (injection hv4 with hv_1 hv_2 hv_3; subst hv_1; subst hv_3)); refine gO ?_
  have h5 : By z4 (j.got ++ p.data) (.slice A4 (j.got.length + p.data.length) c4) := by rw [← List.length_append]; exact By.mk (by rw [List.length_append]; omega) (hB.append hB2) (by rw [← bc_append]; exact hr4)
  (try simp only [seval, go_sem]); repeat' (first | (with_reducible refine vsI.id ?_; (try simp only [seval, go_sem])) | (with_reducible refine vcI_cond ?_; (try simp only [seval, go_sem])) | (with_reducible refine guardR.split (fun hg => ?_) (fun hg => ?_) <;> (try simp only [hg]) <;> simp only [seval, go_sem]) | (with_reducible refine condI.split (fun hg => ?_) (fun hg => ?_) <;> (try simp only [hg]) <;> (try simp only [seval, go_sem])) | (with_reducible refine callM.toT ?_))
  all_goals (try (refine tT ?_; refine callP (l4bad _) rfl rfl ?_; rintro r z1 hz1 ⟨w1, w2, rfl⟩; replace h5 := h5.mono hz1)); refine gO ?_
  all_goals (try ((refine FinV.frz 4 rfl rfl (fun b5 z5 hz5 hr5 => ?_)); dsimp only at hz5; simp only [seval, go_sem, Go.Proofs.YtllafcmkppmdgaaGreat.frz, subV, subC, subE, subL]; replace h5 := h5.mono hz5))
  all_goals (first|refine fN ?_|exact fZ)
  all_goals simp only [beq_iff_eq, decide_eq_true_eq, decide_eq_false_iff_not, beq_eq_false_iff_ne, bne_iff_ne, bne_eq_false_iff_eq, ne_eq, Bool.not_eq_true', Bool.not_eq_false'] at *
  all_goals first
   | (exfalso; omega)
   | (rw [segPut_all (by omega) (by omega)]; exact ⟨_, _, rfl, Sl.nil _ _ _, h5⟩)
   | (rw [segPut_start (by omega) (by omega)]; exact ⟨_, _, rfl, h5, Sl.nil _ _ _⟩)
   | (rw [segPut_more (by omega) (by omega) (by omega)]; exact ⟨_, _, rfl, h5, Sl.nil _ _ _⟩)
   | (rw [segPut_end (by omega) (by omega) (by omega)]; exact ⟨_, _, rfl, Sl.nil _ _ _, h5⟩)
   | (rw [segPut_bad (by omega) (by omega) (by omega) (by omega)]; exact ⟨_, _, rfl, Sl.nil _ _ _, Sl.nil _ _ _⟩)
theorem all_take {α : Type} {p : α → Bool} {l : List α} {i : Nat} {x : α} (hx : l[i]? = some x) (ht : (l.take i).all p = true) (hp : p x = true) : (l.take (i + 1)).all p = true := by
 rw [List.take_add_one, List.all_append, ht, hx]; simp [hp]
theorem all_not {α : Type} {p : α → Bool} {l : List α} {i : Nat} {x : α} (hx : l[i]? = some x) (hp : p x = false) : l.all p = false := List.all_eq_false.2 ⟨x, List.mem_of_getElem? hx, by simp [hp]⟩
def mostB (most : Int) (p : Part) : Bool := partOk p && decide ((p.data.length : Int) ≤ most)
theorem putV_app {c r ds : List Value} {n o : Nat} (h : c.length = n) : putV (c ++ r) (n + o) ds = c ++ putV r o ds := by
 subst h
 simp [putV, List.take_append, List.drop_append, Nat.add_assoc, List.take_of_length_le, List.drop_of_length_le]
theorem putV_app' {c r ds : List Value} {o : Nat} (h : o + ds.length ≤ c.length) : putV (c ++ r) o ds = putV c o ds ++ r := by
 unfold putV
 rw [List.take_append_of_le_length (by omega), List.drop_append_of_le_length h]
 simp
theorem Els.put {α : Type} {d : Rep α} {z : Zc} {y : α} {ds : List Value} {o : Nat} : ∀ {xs : List α} {cs : List Value} {k : Nat}, Els d z xs cs → ∀ {x : α}, xs[k]? = some x → (∀ c, d.K z x c → d.K z y (putV c o ds)) → o + ds.length ≤ d.sz → Els d z (xs.set k y) (putV cs (k * d.sz + o) ds)
 | [], cs, k, h, x, hk, hy, ho => by simp at hk
 | x0 :: xs, cs, 0, h, x, hk, hy, ho => by
  obtain ⟨c, r, rfl, h1, h2⟩ := h
  simp only [List.getElem?_cons_zero, Option.some.injEq] at hk
  subst hk
  rw [Nat.zero_mul, Nat.zero_add, putV_app' (by rw [d.len h1]; exact ho)]
  exact ⟨_, r, rfl, hy c h1, h2⟩
 | x0 :: xs, cs, k + 1, h, x, hk, hy, ho => by
  obtain ⟨c, r, rfl, h1, h2⟩ := h
  simp only [List.getElem?_cons_succ] at hk
  rw [Nat.succ_mul, show k * d.sz + d.sz + o = d.sz + (k * d.sz + o) by omega, putV_app (d.len h1)]
  exact ⟨c, _, rfl, h1, h2.put hk hy ho⟩
theorem set_same {α : Type} {l : List α} {k : Nat} {x : α} (h : l[k]? = some x) : l.set k x = l := by
 obtain ⟨hk, e⟩ := List.getElem?_eq_some_iff.1 h
 rw [← e]; exact List.set_getElem_self hk
theorem Els.data {z : Zc} {l : List Part} {cs : List Value} {k : Nat} {p : Part} {v : Value} (h : Els pRep z l cs) (hk : l[k]? = some p) (hv : By z p.data v) : Els pRep z l (putV cs (k * 3 + 2) [v]) := by
 have := h.put (k := k) (y := p) (ds := [v]) (o := 2) hk (fun c hc => by obtain ⟨u, rfl, _⟩ := hc; exact ⟨v, rfl, hv⟩) (Nat.le_refl 3)
 rwa [set_same hk] at this
theorem vsI.formR {P : Program} {ic : IC} {K : Exit → St → Prop} {s : St} (k : Nat) {e sz n : Nat} {v : Value} {cs : List Value} (hk : look k s.L = some (.own (rowA e sz v n cs))) (h : ∀ A c, v = .slice A n c → n ≤ c → vsI P ic K s) : vsI P ic K s := fun C ρ a w hs => by
 obtain ⟨F, hh, hw⟩ := hs.mem
 obtain ⟨F1, F2, ⟨hrow, _⟩, _⟩ := hh.pick hk
 obtain ⟨A', c', e1, e2, _⟩ := hrow.rd
 exact h A' c' e1 e2 C ρ a w hs
theorem FinV.atR {fr : List FR} {s : St} {R : Value → Zc → Asrt → Prop} (k : Nat) {e sz n c : Nat} {A : Option Addr} {cs : List Value} (hk : look k s.L = some (.own (rowA e sz (.slice A n c) n cs))) (hn : 0 < n) (h : IsAt A → FinV fr s R) : FinV fr s R := fun C ρ a w hs => by
 obtain ⟨F, hh, hw⟩ := hs.mem
 obtain ⟨F1, F2, ⟨hrow, _⟩, _⟩ := hh.pick hk
 rcases hrow.2 with ⟨_, e0⟩ | ⟨g, o, cap, cur, e1, _⟩
 ·omega
 ·injection e1 with e1 _ _
  exact h ⟨g, o, e1⟩ C ρ a w hs
theorem FinV.formR {fr : List FR} {s : St} {R : Value → Zc → Asrt → Prop} (k : Nat) {e sz n : Nat} {v : Value} {cs : List Value} (hk : look k s.L = some (.own (rowA e sz v n cs))) (h : ∀ A c, v = .slice A n c → n ≤ c → FinV fr s R) : FinV fr s R := fun C ρ a w hs => by
 obtain ⟨F, hh, hw⟩ := hs.mem
 obtain ⟨F1, F2, ⟨hrow, _⟩, _⟩ := hh.pick hk
 obtain ⟨A', c', e1, e2, _⟩ := hrow.rd
 exact h A' c' e1 e2 C ρ a w hs
theorem l6parts_s (l : List Part) (v : Value) (most : Int) (z : Zc) (h : Sl pRep z l v) (hl : l.length ≤ 1000000000) (hp : ∀ p ∈ l, p.data.length ≤ 1000000000) :
  PSpec Tryz.prog 166 [v, .int .i64 most] z fun u z' => u = .bool (l.all (mostB most)) ∧ z = z' := by
 obtain ⟨A, k, cs, rfl, hk, he, hr⟩ := h
 refine eP k166 ?_
 refine gO ?_
 refine loop_upd (ι := Nat) (n := 0) (fun i => i ≤ l.length ∧ (l.take i).all (mostB most) = true) (fun i => [(5, .c (.v (.int .i64 i)))]) (fun _ => []) (fun _ => z) (fun i => l.length - i) 0 (by simp) (by (simp only [wrI, wrR, anyL, st, List.append_nil, List.nil_append, List.cons_append]); exact rfl) ?_ ?_
 ·exact lE
 ·rintro i ⟨hi, ht⟩
  refine gO ?_
  (with_reducible refine condI.split (fun hg => ?_) (fun hg => ?_) <;> (try simp only [hg]) <;> (try simp only [seval, go_sem]))
  ·refine gO ?_
   have hi' : i < l.length := by simp at hg; omega
   obtain ⟨x, hx⟩ : ∃ x, l[i]? = some x := ⟨_, List.getElem?_eq_getElem hi'⟩
   obtain ⟨c1, ⟨v, rfl, hb⟩, hr1⟩ := he.at hr hx
   obtain ⟨A1, c1, rfl, hc1, hB1, hrb⟩ := hb.form
   (refine ⟨⟨by omega, by omega, he.isAt hr (by decide) hi'⟩, ?_⟩; (try simp only [seval, go_sem]))
   (refine ldF.agg _ rfl (by first | exact .inl hr1 | exact hr1) ?_; (try simp only [seval, go_sem]))
   refine tT ?_; refine callP (partok_s x A1 _ _ (hp x (List.mem_of_getElem? hx))) rfl rfl ?_; rintro _ _ - ⟨rfl, rfl⟩; refine gO ?_
   (with_reducible refine guardR.split (fun hg => ?_) (fun hg => ?_) <;> (try simp only [hg]) <;> simp only [seval, go_sem])
   ·refine gO ?_
    (first|refine fN ?_|exact fZ)
    have : l.all (mostB most) = false := all_not hx (by simp only [mostB]; simp at hg; simp [hg])
    simp [this]
   ·have hok : partOk x = true := by simpa using hg
    (refine ⟨⟨by omega, by omega, he.isAt hr (by decide) hi'⟩, ?_⟩; (try simp only [seval, go_sem]))
    (refine ldF.one _ (by first | exact .inl (hr1.cell 2 rfl) | exact (hr1.cell 2 rfl)) ?_; (try simp only [seval, go_sem]))
    refine gO ?_
    (with_reducible refine condI.split (fun hg => ?_) (fun hg => ?_) <;> (try simp only [hg]) <;> (try simp only [seval, go_sem]))
    ·(first|refine fN ?_|exact fZ)
     have : l.all (mostB most) = false := all_not hx (by simp only [mostB]; simp at hg; simp; omega)
     simp [this]
    ·refine gO ?_
     refine ⟨i + 1, ⟨by omega, all_take (p := mostB most) hx ht (by simp only [mostB, hok]; simp at hg; simp; omega)⟩, by omega, ?_⟩
     exact lE
  ·refine gO ?_
   (first|refine fN ?_|exact fZ)
   have : i = l.length := by simp at hg; omega
   subst this
   simpa using ht.symm
structure LstS where
 i : Nat
 v : Value
 cs : List Value
 z : Zc
theorem atyS : AppTy Tryz.prog 48 22 1 := AppTy.of (by kernel_rfl)
theorem l6list_s (l : List Part) (v : Value) (z : Zc) (h : Sl pRep z l v) (hl : l.length ≤ 1000000) (hp : ∀ p ∈ l, p.data.length ≤ 1000000000) :
  Spec Tryz.prog 129 [v] z emp fun u z' A' => ∃ A c cs, u = .slice A l.length c ∧ A' = rowA 109 3 (.slice A l.length c) l.length cs ∧ l.length ≤ c ∧ Els pRep z' l cs := by
 obtain ⟨A, k, cs, rfl, hk, he, hr⟩ := h
 refine eA k129 ?_
 refine gO ?_
 refine loopV.toRow 90 0 rfl rfl (m := 0) (sz := 3) rfl (by omega) (fun b0 => ?_)
 simp only [seval, go_sem, rowSt, subV, subC, subE, subL]
 refine loop_upd (ι := LstS) (n := 1) (fun i => z ≤ i.z ∧ i.i ≤ l.length ∧ Els pRep i.z (l.take i.i) i.cs) (fun i => [(4, .c (.v (.int .i64 i.i))), (3, .c (.v i.v))]) (fun i => [(90, .own (rowA 109 3 i.v i.i i.cs))]) (fun i => i.z) (fun i => l.length - i.i) ⟨0, .slice (some ⟨b0, 0, none⟩) 0 0, [], z⟩ ⟨Zc.rfl' _, by simp, rfl⟩ (by (simp only [wrI, wrR, anyL, st, List.append_nil, List.nil_append, List.cons_append]); exact rfl) ?_ ?_
 ·exact lE
 ·rintro ⟨i, v, ds, z1⟩ ⟨hz1, hi, hd⟩
  dsimp only at *
  refine gO ?_
  (with_reducible refine condI.split (fun hg => ?_) (fun hg => ?_) <;> (try simp only [hg]) <;> (try simp only [seval, go_sem]))
  ·refine gO ?_
   have hi' : i < l.length := by simp at hg; omega
   obtain ⟨x, hx⟩ : ∃ x, l[i]? = some x := ⟨_, List.getElem?_eq_getElem hi'⟩
   obtain ⟨c1, ⟨v, rfl, hb⟩, hr1⟩ := (he.mono hz1).at (hr.mono hz1) hx
   obtain ⟨A1, c1, rfl, hc1, hB1, hrb⟩ := hb.form
   have hat : IsAt A := he.isAt hr (by decide) hi'
   (refine ⟨⟨by omega, by omega, hat⟩, ?_⟩; (try simp only [seval, go_sem]))
   (refine ldF.one _ (by first | exact .inl (hr1.cell 0 rfl) | exact (hr1.cell 0 rfl)) ?_; (try simp only [seval, go_sem]))
   (refine ⟨⟨by omega, by omega, hat⟩, ?_⟩; (try simp only [seval, go_sem]))
   (refine ldF.one _ (by first | exact .inl (hr1.cell 1 rfl) | exact (hr1.cell 1 rfl)) ?_; (try simp only [seval, go_sem]))
   (refine ⟨⟨by omega, by omega, hat⟩, ?_⟩; (try simp only [seval, go_sem]))
   (refine ldF.one _ (by first | exact .inl (hr1.cell 2 rfl) | exact (hr1.cell 2 rfl)) ?_; (try simp only [seval, go_sem]))
   have hxp := hp x (List.mem_of_getElem? hx)
   refine aT ?_; (refine appM_empty 99 atyB rfl (by first | exact .inl ⟨_, rfl⟩ | exact .inr ⟨_, _, rfl⟩) rfl hrb (by first | omega | (simp <;> omega)) (bc_one _) (by omega) (fun A2 c2 z2 hz2 hc2 hr2 => ?_)); dsimp only at hz2; refine gO ?_
   refine aT ?_; (refine appM_new 90 atyP rfl rfl rfl rfl rfl rfl rfl (by simp [Value.oneCell']) (by omega) (fun v3 => ?_)); refine gO ?_
   refine ⟨⟨i + 1, v3, ds ++ [.int .i64 x.seg, .int .i64 x.len, .slice A2 x.data.length c2], z2⟩, ⟨Zc.trans' hz1 hz2, by dsimp only; omega, ?_⟩, by dsimp only; omega, ?_⟩
   rotate_left
   ·exact lE
   ·dsimp only
    rw [List.take_add_one, hx]
    exact (hd.mono hz2).append (Els.single ⟨_, rfl, By.mk hc2 hB1 hr2⟩)
  ·refine gO ?_
   refine FinV.formR 90 rfl fun A3 c3 hv3 hc3 => ?_
   subst hv3
   (((try simp only [seval, go_sem]);repeat((with_reducible first|refine vJ ?_|refine vK ?_);try simp only [seval, go_sem])); refine FinV.own 90 rfl ?_; simp only [finE, finS, gt, look, SV.toV, SC.toV, allV, tupV, zq1, zq2, zq3, zq4, Nat.reduceAdd, Nat.reduceEqDiff, reduceCtorEq, if_true, if_false, reduceIte, Nat.succ_ne_self, true_and, zq5, zq7, zq8])
   have : i = l.length := by simp at hg; omega
   subst this
   exact ⟨_, _, _, rfl, rfl, hc3, by simpa using hd⟩
theorem l7sdus_s (l : List (List Int)) (v : Value) (z : Zc) (h : Sl sduRep z l v) (hl : l.length ≤ 1000000) (hp : ∀ p ∈ l, p.length ≤ 1000000000) :
  Spec Tryz.prog 98 [v] z emp fun u z' A' => ∃ A c cs, u = .slice A l.length c ∧ A' = rowA 22 1 (.slice A l.length c) l.length cs ∧ l.length ≤ c ∧ Els sduRep z' l cs := by
 obtain ⟨A, k, cs, rfl, hk, he, hr⟩ := h
 refine eA k98 ?_
 refine gO ?_
 refine loopV.toRow 90 0 rfl rfl (m := 0) (sz := 1) rfl (by omega) (fun b0 => ?_)
 simp only [seval, go_sem, rowSt, subV, subC, subE, subL]
 refine loop_upd (ι := LstS) (n := 1) (fun i => z ≤ i.z ∧ i.i ≤ l.length ∧ Els sduRep i.z (l.take i.i) i.cs) (fun i => [(4, .c (.v (.int .i64 i.i))), (3, .c (.v i.v))]) (fun i => [(90, .own (rowA 22 1 i.v i.i i.cs))]) (fun i => i.z) (fun i => l.length - i.i) ⟨0, .slice (some ⟨b0, 0, none⟩) 0 0, [], z⟩ ⟨Zc.rfl' _, by simp, rfl⟩ (by (simp only [wrI, wrR, anyL, st, List.append_nil, List.nil_append, List.cons_append]); exact rfl) ?_ ?_
 ·exact lE
 ·rintro ⟨i, v, ds, z1⟩ ⟨hz1, hi, hd⟩
  dsimp only at *
  refine gO ?_
  (with_reducible refine condI.split (fun hg => ?_) (fun hg => ?_) <;> (try simp only [hg]) <;> (try simp only [seval, go_sem]))
  ·refine gO ?_
   have hi' : i < l.length := by simp at hg; omega
   obtain ⟨x, hx⟩ : ∃ x, l[i]? = some x := ⟨_, List.getElem?_eq_getElem hi'⟩
   obtain ⟨c1, ⟨v, rfl, hb⟩, hr1⟩ := (he.mono hz1).at (hr.mono hz1) hx
   obtain ⟨A1, c1, rfl, hc1, hB1, hrb⟩ := By.form hb
   have hat : IsAt A := he.isAt hr (by decide) hi'
   (refine ⟨⟨by omega, by omega, hat⟩, ?_⟩; (try simp only [seval, go_sem]))
   (refine ldF.one _ (by first | exact .inl hr1 | exact hr1) ?_; (try simp only [seval, go_sem]))
   have hxp := hp x (List.mem_of_getElem? hx)
   refine aT ?_; (refine appM_empty 99 atyB rfl (by first | exact .inl ⟨_, rfl⟩ | exact .inr ⟨_, _, rfl⟩) rfl hrb (by first | omega | (simp <;> omega)) (bc_one _) (by omega) (fun A2 c2 z2 hz2 hc2 hr2 => ?_)); dsimp only at hz2; refine gO ?_
   refine aT ?_; (refine appM_new 90 atyS rfl rfl rfl rfl rfl rfl rfl (by simp [Value.oneCell']) (by omega) (fun v3 => ?_)); refine gO ?_
   refine ⟨⟨i + 1, v3, ds ++ [.slice A2 x.length c2], z2⟩, ⟨Zc.trans' hz1 hz2, by dsimp only; omega, ?_⟩, by dsimp only; omega, ?_⟩
   rotate_left
   ·exact lE
   ·dsimp only
    rw [List.take_add_one, hx]
    exact (hd.mono hz2).append (Els.single ⟨_, rfl, By.mk hc2 hB1 hr2⟩)
  ·refine gO ?_
   refine FinV.formR 90 rfl fun A3 c3 hv3 hc3 => ?_
   subst hv3
   (((try simp only [seval, go_sem]);repeat((with_reducible first|refine vJ ?_|refine vK ?_);try simp only [seval, go_sem])); refine FinV.own 90 rfl ?_; simp only [finE, finS, gt, look, SV.toV, SC.toV, allV, tupV, zq1, zq2, zq3, zq4, Nat.reduceAdd, Nat.reduceEqDiff, reduceCtorEq, if_true, if_false, reduceIte, Nat.succ_ne_self, true_and, zq5, zq7, zq8])
   have : i = l.length := by simp at hg; omega
   subst this
   exact ⟨_, _, _, rfl, rfl, hc3, by simpa using hd⟩
theorem scloneO (A : Option Addr) (n c : Nat) (cs : List Value) (z : Zc) (hr : RdAt z A 0 cs) (hl : cs.length = n * 3) (h1 : ∀ u ∈ cs, u.oneCell' = true) (hb : n ≤ 1000000000) :
  Spec Tryz.prog 173 [.slice A n c] z emp fun v z' A' => ∃ A2 c2 B, v = .slice A2 n c2 ∧ n ≤ c2 ∧ A' = rowA 109 3 (.slice B n (if n = 0 then 0 else c2)) n cs ∧ (0 < n → B = A2 ∧ IsAt A2) := by
 refine eA k173 ?_
 by_cases hn : n = 0
 ·subst hn
  have hcs : cs = [] := List.eq_nil_of_length_eq_zero (by omega)
  subst hcs
  refine gO ?_
  (with_reducible refine condI.split (fun hg => ?_) (fun hg => ?_) <;> (try simp only [hg]) <;> (try simp only [seval, go_sem]))
  ·refine gO ?_
   refine FinV.tf (Tf.nilRow 90 109 3 rfl) ?_
   dsimp only
   (((try simp only [seval, go_sem]);repeat((with_reducible first|refine vJ ?_|refine vK ?_);try simp only [seval, go_sem])); refine FinV.own 90 rfl ?_; simp only [finE, finS, gt, look, SV.toV, SC.toV, allV, tupV, zq1, zq2, zq3, zq4, Nat.reduceAdd, Nat.reduceEqDiff, reduceCtorEq, if_true, if_false, reduceIte, Nat.succ_ne_self, true_and, zq5, zq7, zq8])
   first | exact ⟨_, _, _, rfl, rfl⟩ | exact ⟨_, _, _, rfl, by omega, rfl⟩ | exact ⟨_, _, _, rfl, rfl, by omega⟩
  ·refine gO ?_
   refine aT ?_; (refine appM_zero atyP (by first | exact .inl ⟨_, _, _, Nat.le_refl _, rfl⟩ | exact .inr ⟨_, _, rfl⟩) rfl ?_); refine gO ?_
   (refine FinV.frz 0 rfl rfl (fun b z1 hz1 hr1 => ?_)); dsimp only at hz1; simp only [seval, go_sem, Go.Proofs.YtllafcmkppmdgaaGreat.frz, subV, subC, subE, subL]
   refine FinV.tf (Tf.nilRow 90 109 3 rfl) ?_
   dsimp only
   (((try simp only [seval, go_sem]);repeat((with_reducible first|refine vJ ?_|refine vK ?_);try simp only [seval, go_sem])); refine FinV.own 90 rfl ?_; simp only [finE, finS, gt, look, SV.toV, SC.toV, allV, tupV, zq1, zq2, zq3, zq4, Nat.reduceAdd, Nat.reduceEqDiff, reduceCtorEq, if_true, if_false, reduceIte, Nat.succ_ne_self, true_and, zq5, zq7, zq8])
   first | exact ⟨_, _, _, rfl, rfl⟩ | exact ⟨_, _, _, rfl, by omega, rfl⟩ | exact ⟨_, _, _, rfl, rfl, by omega⟩
 ·refine gO ?_
  (with_reducible refine condI.split (fun hg => ?_) (fun hg => ?_) <;> (try simp only [hg]) <;> (try simp only [seval, go_sem]))
  ·exfalso
   cases A with
   | none => obtain ⟨b, o, e, _⟩ := hr (List.ne_nil_of_length_pos (by omega)); cases e
   | some a => simp at hg
  ·refine gO ?_
   refine aT ?_; (refine appM_emptyO 90 atyP rfl (by first | exact .inl ⟨_, rfl⟩ | exact .inr ⟨_, _, rfl⟩) rfl (hr) (by first | omega | (simp <;> omega)) (h1) (by omega) (by omega) (fun A2 c2 hc2 => ?_)); refine gO ?_
   refine FinV.atR 90 rfl (by omega) (fun hat => ?_)
   (((try simp only [seval, go_sem]);repeat((with_reducible first|refine vJ ?_|refine vK ?_);try simp only [seval, go_sem])); refine FinV.own 90 rfl ?_; simp only [finE, finS, gt, look, SV.toV, SC.toV, allV, tupV, zq1, zq2, zq3, zq4, Nat.reduceAdd, Nat.reduceEqDiff, reduceCtorEq, if_true, if_false, reduceIte, Nat.succ_ne_self, true_and, zq5, zq7, zq8])
   exact ⟨A2, c2, A2, rfl, hc2, by rw [if_neg hn], fun _ => ⟨rfl, hat⟩⟩
theorem cloneO (A : Option Addr) (n c : Nat) (cs : List Value) (z : Zc) (hr : RdAt z A 0 cs) (hl : cs.length = n * 3) (h1 : ∀ u ∈ cs, u.oneCell' = true) (hb : n ≤ 1000000000) :
  Spec Tryz.prog 159 [.slice A n c] z emp fun v z' A' => ∃ A2 B, v = .slice A2 n n ∧ A' = rowA 109 3 (.slice B n n) n cs ∧ (0 < n → B = A2 ∧ IsAt A2) := by
 refine eA k159 ?_
 refine gO ?_
 refine tT ?_; refine callO 90 (scloneO A n c cs z hr hl h1 hb) rfl rfl rfl ?_; rintro v z1 A' hz1 ⟨A2, c2, B, rfl, hc2, rfl, hB⟩; refine gO ?_
 refine tT ?_; refine callP (sclipP A2 n c2 z1 hc2 hb) rfl rfl ?_; rintro v z2 hz2 rfl; refine gO ?_
 refine FinV.tf (Tf.cut 90 rfl rfl 0 n n (by omega) (by omega) (by omega) (by split <;> omega) (.inl rfl)) ?_
 (((try simp only [seval, go_sem]);repeat((with_reducible first|refine vJ ?_|refine vK ?_);try simp only [seval, go_sem])); refine FinV.own 90 rfl ?_; simp only [finE, finS, gt, look, SV.toV, SC.toV, allV, tupV, zq1, zq2, zq3, zq4, Nat.reduceAdd, Nat.reduceEqDiff, reduceCtorEq, if_true, if_false, reduceIte, Nat.succ_ne_self, true_and, zq5, zq7, zq8])
 exact ⟨_, _, rfl, by rw [List.take_of_length_le (by omega)], hB⟩
theorem copyparts_i (l : List Part) (v : Value) (z : Zc) (h : Sl pRep z l v) (hl : l.length ≤ 1000000) (hp : ∀ p ∈ l, p.data.length ≤ 1000000000) :
  PSpec Tryz.prog 130 [v] z fun u z' => ∃ A, u = .slice A l.length l.length ∧ Sl pRep z' l u := by
 obtain ⟨A, k, cs, rfl, hk, he, hr⟩ := h
 refine eP k130 ?_
 refine gO ?_
 refine tT ?_; refine callO 90 (cloneO A l.length k cs z hr he.length he.one (by omega)) rfl rfl rfl ?_; rintro v z1 A' hz1 ⟨A2, B, rfl, rfl, hB⟩; refine gO ?_
 refine loop_upd (ι := LstS) (n := 0) (fun i => z1 ≤ i.z ∧ i.i ≤ l.length ∧ Els pRep i.z l i.cs) (fun i => [(10, .c (.v (.int .i64 i.i)))]) (fun i => [(90, .own (rowA 109 3 (.slice B l.length l.length) l.length i.cs))]) (fun i => i.z) (fun i => l.length - i.i) ⟨0, .slice none 0 0, cs, z1⟩ ⟨Zc.rfl' _, by simp, he.mono hz1⟩ (by (simp only [wrI, wrR, anyL, st, List.append_nil, List.nil_append, List.cons_append]); exact rfl) ?_ ?_
 ·exact lE
 ·rintro ⟨i, v, ds, z2⟩ ⟨hz2, hi, hd⟩
  dsimp only at *
  refine gO ?_
  (with_reducible refine condI.split (fun hg => ?_) (fun hg => ?_) <;> (try simp only [hg]) <;> (try simp only [seval, go_sem]))
  ·refine gO ?_
   have hi' : i < l.length := by simp at hg; omega
   obtain ⟨x, hx⟩ : ∃ x, l[i]? = some x := ⟨_, List.getElem?_eq_getElem hi'⟩
   obtain ⟨rfl, hat⟩ := hB (by omega)
   obtain ⟨c1, ⟨v, rfl, hb⟩, hg1⟩ := hd.get hx
   have hxp := hp x (List.mem_of_getElem? hx)
   obtain ⟨A1, c1, rfl, hc1, hB1, hrb⟩ := hb.form
   (refine ⟨⟨by omega, by omega, hat⟩, ?_⟩; (try simp only [seval, go_sem]))
   (refine ldF.agg _ rfl (by first | exact .inl (.inr ⟨90, _, _, _, _, _, rfl, hg1⟩) | exact (.inr ⟨90, _, _, _, _, _, rfl, hg1⟩)) ?_; (try simp only [seval, go_sem]))
   refine gO ?_
   refine tT ?_; refine callP (cloneBy x.data _ z2 hb (by omega)) rfl rfl ?_; rintro v3 z3 hz3 ⟨A3, rfl, _, hr3⟩; refine gO ?_
   (refine ⟨⟨by omega, by omega, hat⟩, ?_⟩; (try simp only [seval, go_sem]))
   refine stoV_row 90 rfl rfl rfl rfl rfl rfl rfl (by rw [hd.length]; simp; show _ ≤ l.length * 3; omega) ?_
   simp only [seval, go_sem]
   refine gO ?_
   refine ⟨⟨i + 1, .slice none 0 0, putV ds (i * 3 + 2) [.slice A3 x.data.length x.data.length], z3⟩, ⟨Zc.trans' hz2 hz3, by dsimp only; omega, (hd.mono hz3).data hx (By.mk (Nat.le_refl _) hB1 hr3)⟩, by dsimp only; omega, ?_⟩
   exact lE
  ·refine gO ?_
   (refine FinV.frzR 90 rfl (fun A4 c4 z4 hv4 hc4 hz4 hr4 => ?_)); dsimp only at hz4; (try subst hv4); simp only [seval, go_sem]
   (first|refine fN ?_|exact fZ)
   refine ⟨_, rfl, ?_⟩
   rcases Nat.eq_zero_or_pos l.length with h0 | h0
   ·obtain rfl := List.eq_nil_of_length_eq_zero h0
    exact Sl.nil _ _ _
   ·obtain ⟨rfl, _⟩ := hB h0
    injection hv4 with e1 _ e3
    subst e1
    exact ⟨_, _, _, rfl, Nat.le_refl _, hd.mono hz4, hr4⟩
theorem vsI.atR {P : Program} {ic : IC} {K : Exit → St → Prop} {s : St} (k : Nat) {e sz n c : Nat} {A : Option Addr} {cs : List Value} (hk : look k s.L = some (.own (rowA e sz (.slice A n c) n cs))) (h : (0 < n → IsAt A) → vsI P ic K s) : vsI P ic K s := fun C ρ a w hs => by
 obtain ⟨F, hh, hw⟩ := hs.mem
 obtain ⟨F1, F2, ⟨hrow, _⟩, _⟩ := hh.pick hk
 refine h (fun hn => ?_) C ρ a w hs
 rcases hrow.2 with ⟨_, e0⟩ | ⟨g, o, cap, cur, e1, _⟩
 ·omega
 ·injection e1 with e1 _ _
  exact ⟨g, o, e1⟩
structure CopS where
 i : Nat
 c1 : List Value
 c2 : List Value
 z : Zc
theorem putV_at {c1 c2 : List Value} {i : Nat} {u : Value} (h : c1.length = i) : putV (c1 ++ c2) i [u] = (c1 ++ [u]) ++ c2.drop 1 := by
 subst h; simp [putV, List.take_append, List.drop_append]
set_option maxHeartbeats 4000000
set_option linter.defProp false
def k101 := mkK [(.c 2 5 true)] [] [] Tryz.func101 Tryz.ntmps101 rfl
def k102 := mkK [(.c 2 4 true)] [] [] Tryz.func102 Tryz.ntmps102 rfl
def k41 := mkK [(.t 4)] [] [] Tryz.func41 Tryz.ntmps41 rfl
def k42 := mkK [(.t 2)] [] [] Tryz.func42 Tryz.ntmps42 rfl
def k144 := mkK [(.c 6 5 true),(.t 7)] [] [] Tryz.func144 Tryz.ntmps144 rfl
def k145 := mkK [(.c 4 5 true),(.c 5 9 true),(.t 6)] [] [(10,[4,5],.l [1,4,9,12,17,20,25,30,32,38,42,44])] Tryz.func145 Tryz.ntmps145 rfl
def k135 := mkK [(.c 6 5 true)] [] [] Tryz.func135 Tryz.ntmps135 rfl
def k146 := mkK [(.c 2 4 true),(.c 3 9 true),(.t 4)] [] [(7,[2,3],.l [1,4,9,12,16,22,26,28])] Tryz.func146 Tryz.ntmps146 rfl
def k161 := mkK [(.t 6)] [] [(7,[],.f [0,4,8,13,16,21,24,29,32,37,40] (.l [46,48,52,56,60,66,71,72,76]) (.l [66,46,48,52,56,60,71,72,76]))] Tryz.func161 Tryz.ntmps161 rfl
def k136 := mkK [(.c 6 4 true),(.t 7)] [] [] Tryz.func136 Tryz.ntmps136 rfl
def k96 := mkK [(.c 2 5 true)] [] [] Tryz.func96 Tryz.ntmps96 rfl
def k97 := mkK [(.c 2 4 true)] [] [] Tryz.func97 Tryz.ntmps97 rfl
def k150 := mkK [(.t 4)] [] [] Tryz.func150 Tryz.ntmps150 rfl
def k154 := mkK [(.t 2)] [] [] Tryz.func154 Tryz.ntmps154 rfl
def k118 := mkK [(.c 6 5 true),(.t 7)] [] [] Tryz.func118 Tryz.ntmps118 rfl
def k120 := mkK [(.c 4 5 true),(.c 5 9 true),(.t 6)] [] [(10,[4,5],.l [1,4,9,12,17,24,29,22,34,36,42,46,48])] Tryz.func120 Tryz.ntmps120 rfl
def k156 := mkK [(.c 6 5 true)] [] [] Tryz.func156 Tryz.ntmps156 rfl
def k126 := mkK [(.c 2 4 true),(.c 3 9 true),(.t 4)] [] [(7,[2,3],.l [1,4,9,12,16,22,26,28])] Tryz.func126 Tryz.ntmps126 rfl
def k157 := mkK [(.c 6 4 true),(.t 7)] [] [] Tryz.func157 Tryz.ntmps157 rfl
set_option maxHeartbeats 1000000
theorem callT.toRow {P : Program} {f : FuncId} {args : List Operand} {d : Option Nat} {s : St} {K : St → Prop} (k j : Nat) {e sz m : Nat} {cs : List SC} {vs : List Value} (hk : look j s.L = some (.cells e cs)) (hv : allV cs = some vs) (hl : vs.length = m * sz) (hm : m ≤ 1000000000) (h : ∀ b, callT P f args d (rowSt s k j b e sz m vs) K) : callT P f args d s K := fun o h1 h2 => opT.toRow k j hk hv hl hm fun b => h b o h1 h2
theorem crxok_i (r : CRx) (A : Option Addr) (k : Nat) (z : Zc) (h : r.join.got.length ≤ 1000000000) (hj : -1000000000 ≤ r.join.len) : PSpec Tryz.prog 42 [vCRx r (.slice A r.join.got.length k)] z fun u z' => u = .bool (crxOk r) ∧ z = z' := by
 refine eP k42 ?_
 (try simp only [seval, go_sem]); repeat' (first | (with_reducible refine vsI.id ?_; (try simp only [seval, go_sem])) | (with_reducible refine vcI_cond ?_; (try simp only [seval, go_sem])) | (with_reducible refine guardR.split (fun hg => ?_) (fun hg => ?_) <;> (try simp only [hg]) <;> simp only [seval, go_sem]) | (with_reducible refine condI.split (fun hg => ?_) (fun hg => ?_) <;> (try simp only [hg]) <;> (try simp only [seval, go_sem])) | (with_reducible refine callM.toT ?_) | (refine callP (in_i _ _ _ _) rfl rfl ?_; rintro _ _ - ⟨rfl, rfl⟩; (try simp only [seval, go_sem])) | (refine callP (joinok_i r.join A k _ h hj) rfl rfl ?_; rintro _ _ - ⟨rfl, rfl⟩; (try simp only [seval, go_sem])))
 all_goals ((first|refine fN ?_|exact fZ); (try simp only [inB_iff, inB_no, isNum_iff, beq_iff_eq, decide_eq_true_eq, decide_eq_false_iff_not, beq_eq_false_iff_ne, bne_iff_ne, bne_eq_false_iff_eq, Bool.not_eq_true', Bool.not_eq_false', and_true] at *); (try simp (disch := omega) only [wrap_in, Int.tmod_eq_emod_of_nonneg] at *); (try simp only [and_true]); first | rfl | (simp_all [crxOk]; done) | (refine congrArg Value.bool (Bool.eq_iff_iff.2 ?_); simp [*, crxOk, inB_iff]; done) | (refine congrArg Value.bool (Bool.eq_iff_iff.2 ?_); simp [*, crxOk, inB_iff]; omega) | (simp_all [crxOk]; omega))
theorem crxok_s (r : CRx) (A : Option Addr) (k : Nat) (z : Zc) (h : r.join.got.length ≤ 1000000000) (hj : -1000000000 ≤ r.join.len) : PSpec Tryz.prog 154 [vCRx r (.slice A r.join.got.length k)] z fun u z' => u = .bool (crxOk r) ∧ z = z' := by
 refine eP k154 ?_
 (try simp only [seval, go_sem]); repeat' (first | (with_reducible refine vsI.id ?_; (try simp only [seval, go_sem])) | (with_reducible refine vcI_cond ?_; (try simp only [seval, go_sem])) | (with_reducible refine guardR.split (fun hg => ?_) (fun hg => ?_) <;> (try simp only [hg]) <;> simp only [seval, go_sem]) | (with_reducible refine condI.split (fun hg => ?_) (fun hg => ?_) <;> (try simp only [hg]) <;> (try simp only [seval, go_sem])) | (with_reducible refine callM.toT ?_) | (refine callP (in_s _ _ _ _) rfl rfl ?_; rintro _ _ - ⟨rfl, rfl⟩; (try simp only [seval, go_sem])) | (refine callP (joinok_s r.join A k _ h hj) rfl rfl ?_; rintro _ _ - ⟨rfl, rfl⟩; (try simp only [seval, go_sem])))
 all_goals ((first|refine fN ?_|exact fZ); (try simp only [inB_iff, inB_no, isNum_iff, beq_iff_eq, decide_eq_true_eq, decide_eq_false_iff_not, beq_eq_false_iff_ne, bne_iff_ne, bne_eq_false_iff_eq, Bool.not_eq_true', Bool.not_eq_false', and_true] at *); (try simp (disch := omega) only [wrap_in, Int.tmod_eq_emod_of_nonneg] at *); (try simp only [and_true]); first | rfl | (simp_all [crxOk]; done) | (refine congrArg Value.bool (Bool.eq_iff_iff.2 ?_); simp [*, crxOk, inB_iff]; done) | (refine congrArg Value.bool (Bool.eq_iff_iff.2 ?_); simp [*, crxOk, inB_iff]; omega) | (simp_all [crxOk]; omega))
theorem ctxok_i (c : Cfg) (t : CTx) (q : Value) (z : Zc) (h : Sl pRep z t.queue q) (hl : t.queue.length ≤ 1000000000) (hp : ∀ p ∈ t.queue, p.data.length ≤ 1000000000) : PSpec Tryz.prog 41 [vCfg c, vCTx t q] z fun u z' => u = .bool (ctxOk c t) := by
 obtain ⟨A, k, cs, rfl, hk, he, hr⟩ := h
 refine eP k41 ?_
 (try simp only [seval, go_sem]); repeat' (first | (with_reducible refine vsI.id ?_; (try simp only [seval, go_sem])) | (with_reducible refine vcI_cond ?_; (try simp only [seval, go_sem])) | (with_reducible refine guardR.split (fun hg => ?_) (fun hg => ?_) <;> (try simp only [hg]) <;> simp only [seval, go_sem]) | (with_reducible refine condI.split (fun hg => ?_) (fun hg => ?_) <;> (try simp only [hg]) <;> (try simp only [seval, go_sem])) | (with_reducible refine callM.toT ?_) | (refine callP (in_i _ _ _ _) rfl rfl ?_; rintro _ _ - ⟨rfl, rfl⟩; (try simp only [seval, go_sem])) | (refine callP (cfgok_i _ _) rfl rfl ?_; rintro _ _ - ⟨rfl, rfl⟩; (try simp only [seval, go_sem])))
 all_goals (try (refine tT ?_; refine callP (partsok_i c t.queue _ z ⟨A, k, cs, rfl, hk, he, hr⟩ hl hp) rfl rfl ?_; rintro u z1 hz1 rfl)); refine gO ?_
 all_goals ((first|refine fN ?_|exact fZ); (try simp only [inB_iff, inB_no, isNum_iff, beq_iff_eq, decide_eq_true_eq, decide_eq_false_iff_not, beq_eq_false_iff_ne, bne_iff_ne, bne_eq_false_iff_eq, Bool.not_eq_true', Bool.not_eq_false', and_true] at *); (try simp (disch := omega) only [wrap_in, Int.tmod_eq_emod_of_nonneg] at *); (try simp only [and_true]); first | rfl | (simp_all [ctxOk]; done) | (refine congrArg Value.bool (Bool.eq_iff_iff.2 ?_); simp [*, ctxOk, inB_iff]; done) | (refine congrArg Value.bool (Bool.eq_iff_iff.2 ?_); simp [*, ctxOk, inB_iff]; omega) | (simp_all [ctxOk]; omega))
theorem ctxok_s (c : Cfg) (t : CTx) (q : Value) (z : Zc) (h : Sl pRep z t.queue q) (hl : t.queue.length ≤ 1000000000) (hp : ∀ p ∈ t.queue, p.data.length ≤ 1000000000) : PSpec Tryz.prog 150 [vCfg c, vCTx t q] z fun u z' => u = .bool (ctxOk c t) := by
 obtain ⟨A, k, cs, rfl, hk, he, hr⟩ := h
 refine eP k150 ?_
 (try simp only [seval, go_sem]); repeat' (first | (with_reducible refine vsI.id ?_; (try simp only [seval, go_sem])) | (with_reducible refine vcI_cond ?_; (try simp only [seval, go_sem])) | (with_reducible refine guardR.split (fun hg => ?_) (fun hg => ?_) <;> (try simp only [hg]) <;> simp only [seval, go_sem]) | (with_reducible refine condI.split (fun hg => ?_) (fun hg => ?_) <;> (try simp only [hg]) <;> (try simp only [seval, go_sem])) | (with_reducible refine callM.toT ?_) | (refine callP (in_s _ _ _ _) rfl rfl ?_; rintro _ _ - ⟨rfl, rfl⟩; (try simp only [seval, go_sem])) | (refine callP (cfgok_s _ _) rfl rfl ?_; rintro _ _ - ⟨rfl, rfl⟩; (try simp only [seval, go_sem])))
 all_goals (try (refine tT ?_; refine callP (l6parts_s t.queue _ c.mps z ⟨A, k, cs, rfl, hk, he, hr⟩ hl hp) rfl rfl ?_; rintro u z1 hz1 ⟨rfl, rfl⟩)); refine gO ?_
 all_goals ((first|refine fN ?_|exact fZ); (try simp only [inB_iff, inB_no, isNum_iff, beq_iff_eq, decide_eq_true_eq, decide_eq_false_iff_not, beq_eq_false_iff_ne, bne_iff_ne, bne_eq_false_iff_eq, Bool.not_eq_true', Bool.not_eq_false', and_true] at *); (try simp (disch := omega) only [wrap_in, Int.tmod_eq_emod_of_nonneg] at *); (try simp only [and_true]); first | rfl | (simp_all [ctxOk, partsOk, mostB]; done) | (refine congrArg Value.bool (Bool.eq_iff_iff.2 ?_); simp [*, ctxOk, partsOk, mostB, inB_iff]; done) | (refine congrArg Value.bool (Bool.eq_iff_iff.2 ?_); simp [*, ctxOk, partsOk, mostB, inB_iff]; omega) | (simp_all [ctxOk, partsOk, mostB]; omega))
theorem ctxcopy_i (t : CTx) (q : Value) (z : Zc) (h : Sl pRep z t.queue q) (hl : t.queue.length ≤ 1000000) (hp : ∀ p ∈ t.queue, p.data.length ≤ 1000000000) : PSpec Tryz.prog 101 [vCTx t q] z fun u z' => ∃ A, u = vCTx t (.slice A t.queue.length t.queue.length) ∧ Sl pRep z' t.queue (.slice A t.queue.length t.queue.length) := by
 obtain ⟨A, k, cs, rfl, hk, he, hr⟩ := h
 refine eP k101 ?_
 refine gO ?_
 refine tT ?_; refine callP (copyparts_i t.queue _ z ⟨A, k, cs, rfl, hk, he, hr⟩ hl hp) rfl rfl ?_; rintro u z1 hz1 ⟨A2, rfl, hs⟩; refine gO ?_
 (first|refine fN ?_|exact fZ)
 exact ⟨_, rfl, hs⟩
theorem crxcopy_i (r : CRx) (q : Value) (z : Zc) (h : By z r.join.got q) (hl : r.join.got.length ≤ 1000000000) : PSpec Tryz.prog 102 [vCRx r q] z fun u z' => ∃ A, u = vCRx r (.slice A r.join.got.length r.join.got.length) ∧ By z' r.join.got (.slice A r.join.got.length r.join.got.length) := by
 obtain ⟨A, k, rfl, hk, hB, hr⟩ := h.form
 refine eP k102 ?_
 refine gO ?_
 refine tT ?_; refine callP (cloneBy r.join.got _ z h hl) rfl rfl ?_; rintro u z1 hz1 ⟨A2, rfl, _, hs⟩; refine gO ?_
 (first|refine fN ?_|exact fZ)
 exact ⟨_, rfl, By.mk (Nat.le_refl _) hB hs⟩
theorem l8tx (t : CTx) (q : Value) (z : Zc) (h : Sl pRep z t.queue q) (hl : t.queue.length ≤ 1000000) (hp : ∀ p ∈ t.queue, p.data.length ≤ 1000000000) : Spec Tryz.prog 96 [vCTx t q] z emp fun u z' A' => ∃ A c cs, u = vCTx t (.slice A t.queue.length c) ∧ A' = rowA 109 3 (.slice A t.queue.length c) t.queue.length cs ∧ t.queue.length ≤ c ∧ Els pRep z' t.queue cs := by
 obtain ⟨A, k, cs, rfl, hk, he, hr⟩ := h
 refine eA k96 ?_
 refine gO ?_
 refine tT ?_; refine callO 90 (l6list_s t.queue _ z ⟨A, k, cs, rfl, hk, he, hr⟩ hl hp) rfl rfl rfl ?_; rintro v z1 A' hz1 ⟨A2, c2, ds, rfl, rfl, hc2, hs⟩; refine gO ?_
 (((try simp only [seval, go_sem]);repeat((with_reducible first|refine vJ ?_|refine vK ?_);try simp only [seval, go_sem])); refine FinV.own 90 rfl ?_; simp only [finE, finS, gt, look, SV.toV, SC.toV, allV, tupV, zq1, zq2, zq3, zq4, Nat.reduceAdd, Nat.reduceEqDiff, reduceCtorEq, if_true, if_false, reduceIte, Nat.succ_ne_self, true_and, zq5, zq7, zq8])
 exact ⟨_, _, _, rfl, rfl, hc2, hs⟩
theorem l8rx (r : CRx) (q : Value) (z : Zc) (h : By z r.join.got q) (hl : r.join.got.length ≤ 1000000000) : PSpec Tryz.prog 97 [vCRx r q] z fun u z' => ∃ A c, u = vCRx r (.slice A r.join.got.length c) ∧ By z' r.join.got (.slice A r.join.got.length c) := by
 obtain ⟨A, k, rfl, hk, hB, hr⟩ := h.form
 refine eP k97 ?_
 refine gO ?_
 refine aT ?_; (refine appM_empty 99 atyB rfl (by first | exact .inl ⟨_, rfl⟩ | exact .inr ⟨_, _, rfl⟩) rfl hr (by first | omega | (simp <;> omega)) (bc_one _) (by omega) (fun A2 c2 z2 hz2 hc2 hr2 => ?_)); dsimp only at hz2; refine gO ?_
 (first|refine fN ?_|exact fZ)
 exact ⟨_, _, rfl, By.mk hc2 hB hr2⟩
theorem puti (j : Join) (p : Part) (v u : Value) (z : Zc) (hv : By z j.got v) (hu : By z p.data u) (hl : j.got.length ≤ 100000) (hp : p.data.length ≤ 100000) (hj : 0 ≤ j.len) (hs : 0 ≤ p.seg ∧ p.seg ≤ 3) : PSpec Tryz.prog 174 [vJoin j v, vPart p u] z fun r z' => ∃ A k A2 k2, r = .tuple #[vJoin (segPut j p).1 (.slice A (segPut j p).1.got.length k), .slice A2 (segPut j p).2.1.length k2, .int .i64 (segPut j p).2.2] ∧ By z' (segPut j p).1.got (.slice A (segPut j p).1.got.length k) ∧ By z' (segPut j p).2.1 (.slice A2 (segPut j p).2.1.length k2) := by
 have h := put_i j p v u z hv hu hl hp
 refine PSpec.mono (by first | exact h | exact h hj hs) ?_
 rintro r z' hz ⟨v', w', rfl, h1, h2⟩
 obtain ⟨A, k, rfl, _⟩ := h1.form
 obtain ⟨A2, k2, rfl, _⟩ := h2.form
 exact ⟨A, k, A2, k2, rfl, h1, h2⟩
theorem puts (j : Join) (p : Part) (v u : Value) (z : Zc) (hv : By z j.got v) (hu : By z p.data u) (hl : j.got.length ≤ 100000) (hp : p.data.length ≤ 100000) (hj : 0 ≤ j.len) (hs : 0 ≤ p.seg ∧ p.seg ≤ 3) : PSpec Tryz.prog 171 [vJoin j v, vPart p u] z fun r z' => ∃ A k A2 k2, r = .tuple #[vJoin (segPut j p).1 (.slice A (segPut j p).1.got.length k), .slice A2 (segPut j p).2.1.length k2, .int .i64 (segPut j p).2.2] ∧ By z' (segPut j p).1.got (.slice A (segPut j p).1.got.length k) ∧ By z' (segPut j p).2.1 (.slice A2 (segPut j p).2.1.length k2) := by
 have h := put_s j p v u z hv hu hl hp
 refine PSpec.mono (by first | exact h | exact h hj hs) ?_
 rintro r z' hz ⟨v', w', rfl, h1, h2⟩
 obtain ⟨A, k, rfl, _⟩ := h1.form
 obtain ⟨A2, k2, rfl, _⟩ := h2.form
 exact ⟨A, k, A2, k2, rfl, h1, h2⟩
end Go.Proofs.YtllafcmkppmdgaaGreat
