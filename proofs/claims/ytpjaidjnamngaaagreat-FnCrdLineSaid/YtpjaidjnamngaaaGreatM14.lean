/- Who grants credits hears, by the program. · Credits, by the reference. · Who grants credits hears, by the reference. -/
import Derived.Test.YtpjaidjnamngaaaGreatM13
import Derived.Test.YtpjaidjnamngaaaGreatM6
namespace Go.Proofs.YtpjaidjnamngaaaGreat
set_option linter.unusedVariables false
set_option linter.unusedSimpArgs false
open Go.RowKit
set_option maxRecDepth 100000
set_option maxHeartbeats 1000000
theorem crdHear_dead {c : Cfg} {r : CRx} {f : Frm} (h : r.dead = true) : crdHear c r f = (r, []) := by unfold crdHear; rw [if_pos h]
theorem crdHear_end {c : Cfg} {r : CRx} {f : Frm} (h : r.dead = false) (k : r.out = 0 ∨ f.len > c.mtu ∨ (f.data.length : Int) > c.mps) : crdHear c r f = ({ r with dead := true }, []) := by unfold crdHear; rw [if_neg (by simp [h]), if_pos k]
theorem crdHear_bad {c : Cfg} {r : CRx} {f : Frm} (h : r.dead = false) (k : ¬ (r.out = 0 ∨ f.len > c.mtu ∨ (f.data.length : Int) > c.mps)) (h3 : (segPut r.join ⟨f.seg, f.len, f.data⟩).2.2 = 3) : crdHear c r f = (⟨r.out - 1, (segPut r.join ⟨f.seg, f.len, f.data⟩).1, true⟩, []) := by unfold crdHear; rw [if_neg (by simp [h]), if_neg k]; simp only; rw [if_pos h3]
theorem crdHear_yes {c : Cfg} {r : CRx} {f : Frm} (h : r.dead = false) (k : ¬ (r.out = 0 ∨ f.len > c.mtu ∨ (f.data.length : Int) > c.mps)) (h3 : (segPut r.join ⟨f.seg, f.len, f.data⟩).2.2 ≠ 3) : crdHear c r f = (⟨r.out - 1, (segPut r.join ⟨f.seg, f.len, f.data⟩).1, false⟩, if (segPut r.join ⟨f.seg, f.len, f.data⟩).2.2 = 2 then [(segPut r.join ⟨f.seg, f.len, f.data⟩).2.1] else []) := by unfold crdHear; rw [if_neg (by simp [h]), if_neg k]; simp only; rw [if_neg h3, h]
abbrev crxA (b : Nat) (r : CRx) (v : Value) : Asrt := ptrA 34 b [.int .i64 r.out, .int .i64 r.join.len, v, .bool r.dead]
theorem frm3 {f : Frm} (h : frmOk f = true) (hk : f.kind = 3) : pieceOk f.seg f.len f.data.length = true := by
  unfold frmOk at h
  rw [if_neg (by omega), if_neg (by omega), if_pos hk] at h
  simp only [Bool.and_eq_true] at h
  exact h.2
theorem crdhear1 (b : Nat) (c : Cfg) (r : CRx) (f : Frm) (q u : Value) (z : Zc) (hq : By z r.join.got q) (hu : By z f.data u) (hc : CfgI c) (hr : CRxI r) (hp : pieceOk f.seg f.len f.data.length = true) :
    Spec Tryz.prog 40 [.pointer (some ⟨b, 0, none⟩), vCfg c, vFrm f u] z (starL [crxA b r q]) fun v z' A' => ∃ A k, A' = starL [crxA b (crdHear c r f).1 (.slice A (crdHear c r f).1.join.got.length k)] ∧ By z' (crdHear c r f).1.join.got (.slice A (crdHear c r f).1.join.got.length k) ∧ Sl sduRep z' (crdHear c r f).2 v := by
  obtain ⟨A, k, rfl, hk, hB, hrd⟩ := hq.form
  obtain ⟨A2, k2, rfl, hk2, hB2, hr2⟩ := hu.form
  (refine spec_enterP [] Tryz.func40 ic40_ok fr40_ok Tryz.ntmps40 rfl ?_; simp only [seval, go_sem, ic40, fr40, zipL, vals])
  ((try simp only [seval, go_sem]); repeat ((first | with_reducible refine vsI.id ?_ | with_reducible refine vcI_cond ?_); (try simp only [seval, go_sem])))
  (with_reducible refine condI.split (fun hg => ?_) (fun hg => ?_) <;> (try simp only [hg]) <;> (try simp only [seval, go_sem]))
  · ((try simp only [seval, go_sem]); repeat ((first | with_reducible refine vsI.id ?_ | with_reducible refine vcI_cond ?_); (try simp only [seval, go_sem])))
    (refine FinV.give 1000 0 2001 2000 rfl rfl rfl ?_); simp only [seval, go_sem, giveSt, subV, subC, subE, subL]
    (refine FinV.tf (Tf.pack 999 [1000] (by simp only [popL, look, del, Nat.reduceEqDiff, reduceCtorEq, if_true, if_false, reduceIte, Nat.succ_ne_self]; exact rfl) (by simp only [look, Nat.reduceEqDiff, reduceCtorEq, if_true, if_false, reduceIte])) ?_); dsimp only
    (((try simp only [seval, go_sem]); repeat ((first | with_reducible refine vsI.id ?_ | with_reducible refine vcI_cond ?_); (try simp only [seval, go_sem]))); refine FinV.own 999 rfl ?_; simp only [finE, finS, gt, look, SV.toV, SC.toV, allV, tupV, List.map_cons, List.map_nil, List.length_cons, List.length_nil, Nat.reduceAdd, Nat.reduceEqDiff, reduceCtorEq, if_true, if_false, reduceIte, Nat.succ_ne_self, true_and, List.getElem?_cons_zero, Nat.zero_add, Nat.add_zero])
    rw [crdHear_dead hg]
    exact ⟨A, k, by simp only [crxA, hg], hq, Sl.nil _ _ _⟩
  · have hdead : r.dead = false := hg
    (with_reducible refine guardR.split (fun hg => ?_) (fun hg => ?_) <;> (try simp only [hg]) <;> simp only [seval, go_sem])
    · ((try simp only [seval, go_sem]); repeat ((first | with_reducible refine vsI.id ?_ | with_reducible refine vcI_cond ?_); (try simp only [seval, go_sem])))
      (refine FinV.give 1000 0 2001 2000 rfl rfl rfl ?_); simp only [seval, go_sem, giveSt, subV, subC, subE, subL]
      (refine FinV.tf (Tf.pack 999 [1000] (by simp only [popL, look, del, Nat.reduceEqDiff, reduceCtorEq, if_true, if_false, reduceIte, Nat.succ_ne_self]; exact rfl) (by simp only [look, Nat.reduceEqDiff, reduceCtorEq, if_true, if_false, reduceIte])) ?_); dsimp only
      (((try simp only [seval, go_sem]); repeat ((first | with_reducible refine vsI.id ?_ | with_reducible refine vcI_cond ?_); (try simp only [seval, go_sem]))); refine FinV.own 999 rfl ?_; simp only [finE, finS, gt, look, SV.toV, SC.toV, allV, tupV, List.map_cons, List.map_nil, List.length_cons, List.length_nil, Nat.reduceAdd, Nat.reduceEqDiff, reduceCtorEq, if_true, if_false, reduceIte, Nat.succ_ne_self, true_and, List.getElem?_cons_zero, Nat.zero_add, Nat.add_zero])
      rw [crdHear_end hdead (.inl (by simpa using hg))]
      exact ⟨A, k, rfl, hq, Sl.nil _ _ _⟩
    · have hout : r.out ≠ 0 := by simpa using hg
      ((try simp only [seval, go_sem]); repeat ((first | with_reducible refine vsI.id ?_ | with_reducible refine vcI_cond ?_); (try simp only [seval, go_sem])))
      (with_reducible refine guardR.split (fun hg => ?_) (fun hg => ?_) <;> (try simp only [hg]) <;> simp only [seval, go_sem])
      · ((try simp only [seval, go_sem]); repeat ((first | with_reducible refine vsI.id ?_ | with_reducible refine vcI_cond ?_); (try simp only [seval, go_sem])))
        (refine FinV.give 1000 0 2001 2000 rfl rfl rfl ?_); simp only [seval, go_sem, giveSt, subV, subC, subE, subL]
        (refine FinV.tf (Tf.pack 999 [1000] (by simp only [popL, look, del, Nat.reduceEqDiff, reduceCtorEq, if_true, if_false, reduceIte, Nat.succ_ne_self]; exact rfl) (by simp only [look, Nat.reduceEqDiff, reduceCtorEq, if_true, if_false, reduceIte])) ?_); dsimp only
        (((try simp only [seval, go_sem]); repeat ((first | with_reducible refine vsI.id ?_ | with_reducible refine vcI_cond ?_); (try simp only [seval, go_sem]))); refine FinV.own 999 rfl ?_; simp only [finE, finS, gt, look, SV.toV, SC.toV, allV, tupV, List.map_cons, List.map_nil, List.length_cons, List.length_nil, Nat.reduceAdd, Nat.reduceEqDiff, reduceCtorEq, if_true, if_false, reduceIte, Nat.succ_ne_self, true_and, List.getElem?_cons_zero, Nat.zero_add, Nat.add_zero])
        rw [crdHear_end hdead (.inr (.inl (by simpa using hg)))]
        exact ⟨A, k, rfl, hq, Sl.nil _ _ _⟩
      · have hlen : ¬ f.len > c.mtu := by simpa using hg
        ((try simp only [seval, go_sem]); repeat ((first | with_reducible refine vsI.id ?_ | with_reducible refine vcI_cond ?_); (try simp only [seval, go_sem])))
        (with_reducible refine condI.split (fun hg => ?_) (fun hg => ?_) <;> (try simp only [hg]) <;> (try simp only [seval, go_sem]))
        · ((try simp only [seval, go_sem]); repeat ((first | with_reducible refine vsI.id ?_ | with_reducible refine vcI_cond ?_); (try simp only [seval, go_sem])))
          (refine FinV.give 1000 0 2001 2000 rfl rfl rfl ?_); simp only [seval, go_sem, giveSt, subV, subC, subE, subL]
          (refine FinV.tf (Tf.pack 999 [1000] (by simp only [popL, look, del, Nat.reduceEqDiff, reduceCtorEq, if_true, if_false, reduceIte, Nat.succ_ne_self]; exact rfl) (by simp only [look, Nat.reduceEqDiff, reduceCtorEq, if_true, if_false, reduceIte])) ?_); dsimp only
          (((try simp only [seval, go_sem]); repeat ((first | with_reducible refine vsI.id ?_ | with_reducible refine vcI_cond ?_); (try simp only [seval, go_sem]))); refine FinV.own 999 rfl ?_; simp only [finE, finS, gt, look, SV.toV, SC.toV, allV, tupV, List.map_cons, List.map_nil, List.length_cons, List.length_nil, Nat.reduceAdd, Nat.reduceEqDiff, reduceCtorEq, if_true, if_false, reduceIte, Nat.succ_ne_self, true_and, List.getElem?_cons_zero, Nat.zero_add, Nat.add_zero])
          rw [crdHear_end hdead (.inr (.inr (by simpa using hg)))]
          exact ⟨A, k, rfl, hq, Sl.nil _ _ _⟩
        · have hmps : ¬ (f.data.length : Int) > c.mps := by simpa using hg
          have hno : ¬ (r.out = 0 ∨ f.len > c.mtu ∨ (f.data.length : Int) > c.mps) := by omega
          have hk8 := hc.mps
          have hj := hr.2.le
          have hpb := pieceOk_bound hp
          have hjl : 0 ≤ r.join.len := by rcases hr.2 with h | h <;> omega
          have hro := hr.1
          have w1 : IntKind.i64.wrap (r.out - 1) = r.out - 1 := wrap_in (by omega) (by omega)
          ((try simp only [seval, go_sem]); repeat ((first | with_reducible refine vsI.id ?_ | with_reducible refine vcI_cond ?_); (try simp only [seval, go_sem])))
          (with_reducible refine joinV.id ?_; simp only [seval, go_sem])
          refine ⟨?_, ?_⟩
          all_goals
            (try with_reducible refine callM.toT ?_); refine callP (puti r.join ⟨f.seg, f.len, f.data⟩ _ _ z hq hu (by omega) (by show f.data.length ≤ _; omega) hjl (by show 0 ≤ f.seg ∧ f.seg ≤ 3; omega)) rfl rfl ?_; rintro v z1 hz1 ⟨A3, k3, A4, k4, rfl, h3, h4⟩; (try simp only [seval, go_sem]); ((try simp only [seval, go_sem]); repeat ((first | with_reducible refine vsI.id ?_ | with_reducible refine vcI_cond ?_); (try simp only [seval, go_sem])))
          all_goals (try simp only [seval, go_sem]); repeat' (first | (with_reducible refine vsI.id ?_; (try simp only [seval, go_sem])) | (with_reducible refine vcI_cond ?_; (try simp only [seval, go_sem])) | (with_reducible refine guardR.split (fun hg => ?_) (fun hg => ?_) <;> (try simp only [hg]) <;> simp only [seval, go_sem]) | (with_reducible refine condI.split (fun hg => ?_) (fun hg => ?_) <;> (try simp only [hg]) <;> (try simp only [seval, go_sem])) | (with_reducible refine callM.toT ?_))
          · have h33 : (segPut r.join ⟨f.seg, f.len, f.data⟩).2.2 = 3 := by simpa using hg
            (refine FinV.give 1000 0 2001 2000 rfl rfl rfl ?_); simp only [seval, go_sem, giveSt, subV, subC, subE, subL]
            (refine FinV.tf (Tf.pack 999 [1000] (by simp only [popL, look, del, Nat.reduceEqDiff, reduceCtorEq, if_true, if_false, reduceIte, Nat.succ_ne_self]; exact rfl) (by simp only [look, Nat.reduceEqDiff, reduceCtorEq, if_true, if_false, reduceIte])) ?_); dsimp only
            (((try simp only [seval, go_sem]); repeat ((first | with_reducible refine vsI.id ?_ | with_reducible refine vcI_cond ?_); (try simp only [seval, go_sem]))); refine FinV.own 999 rfl ?_; simp only [finE, finS, gt, look, SV.toV, SC.toV, allV, tupV, List.map_cons, List.map_nil, List.length_cons, List.length_nil, Nat.reduceAdd, Nat.reduceEqDiff, reduceCtorEq, if_true, if_false, reduceIte, Nat.succ_ne_self, true_and, List.getElem?_cons_zero, Nat.zero_add, Nat.add_zero])
            rw [w1, crdHear_bad hdead hno h33]
            exact ⟨A3, k3, rfl, h3, Sl.nil _ _ _⟩
          · have h33 : (segPut r.join ⟨f.seg, f.len, f.data⟩).2.2 = 2 := by simpa using hg
            (refine FinV.frz 4 rfl rfl (fun b4 z4 hz4 hr4 => ?_)); dsimp only at hz4; simp only [seval, go_sem, Go.Proofs.YtpjaidjnamngaaaGreat.frz, subV, subC, subE, subL]
            (refine FinV.give 1000 0 2001 2000 rfl rfl rfl ?_); simp only [seval, go_sem, giveSt, subV, subC, subE, subL]
            (refine FinV.tf (Tf.pack 999 [1000] (by simp only [popL, look, del, Nat.reduceEqDiff, reduceCtorEq, if_true, if_false, reduceIte, Nat.succ_ne_self]; exact rfl) (by simp only [look, Nat.reduceEqDiff, reduceCtorEq, if_true, if_false, reduceIte])) ?_); dsimp only
            (((try simp only [seval, go_sem]); repeat ((first | with_reducible refine vsI.id ?_ | with_reducible refine vcI_cond ?_); (try simp only [seval, go_sem]))); refine FinV.own 999 rfl ?_; simp only [finE, finS, gt, look, SV.toV, SC.toV, allV, tupV, List.map_cons, List.map_nil, List.length_cons, List.length_nil, Nat.reduceAdd, Nat.reduceEqDiff, reduceCtorEq, if_true, if_false, reduceIte, Nat.succ_ne_self, true_and, List.getElem?_cons_zero, Nat.zero_add, Nat.add_zero])
            rw [w1, crdHear_yes hdead hno (by omega), if_pos h33]
            exact ⟨A3, k3, rfl, h3.mono hz4, _, _, _, rfl, Nat.le_refl _, Els.single (d := sduRep) ⟨_, rfl, h4.mono hz4⟩, hr4⟩
          · have h33 : (segPut r.join ⟨f.seg, f.len, f.data⟩).2.2 ≠ 2 := by simpa using hg
            (refine FinV.give 1000 0 2001 2000 rfl rfl rfl ?_); simp only [seval, go_sem, giveSt, subV, subC, subE, subL]
            (refine FinV.tf (Tf.pack 999 [1000] (by simp only [popL, look, del, Nat.reduceEqDiff, reduceCtorEq, if_true, if_false, reduceIte, Nat.succ_ne_self]; exact rfl) (by simp only [look, Nat.reduceEqDiff, reduceCtorEq, if_true, if_false, reduceIte])) ?_); dsimp only
            (((try simp only [seval, go_sem]); repeat ((first | with_reducible refine vsI.id ?_ | with_reducible refine vcI_cond ?_); (try simp only [seval, go_sem]))); refine FinV.own 999 rfl ?_; simp only [finE, finS, gt, look, SV.toV, SC.toV, allV, tupV, List.map_cons, List.map_nil, List.length_cons, List.length_nil, Nat.reduceAdd, Nat.reduceEqDiff, reduceCtorEq, if_true, if_false, reduceIte, Nat.succ_ne_self, true_and, List.getElem?_cons_zero, Nat.zero_add, Nat.add_zero])
            rw [w1, crdHear_yes hdead hno (by rename_i hg1; simpa using hg1), if_neg h33]
            exact ⟨A3, k3, rfl, h3, Sl.nil _ _ _⟩
          · have h33 : (segPut r.join ⟨f.seg, f.len, f.data⟩).2.2 = 3 := by simpa using hg
            (refine FinV.give 1000 0 2001 2000 rfl rfl rfl ?_); simp only [seval, go_sem, giveSt, subV, subC, subE, subL]
            (refine FinV.tf (Tf.pack 999 [1000] (by simp only [popL, look, del, Nat.reduceEqDiff, reduceCtorEq, if_true, if_false, reduceIte, Nat.succ_ne_self]; exact rfl) (by simp only [look, Nat.reduceEqDiff, reduceCtorEq, if_true, if_false, reduceIte])) ?_); dsimp only
            (((try simp only [seval, go_sem]); repeat ((first | with_reducible refine vsI.id ?_ | with_reducible refine vcI_cond ?_); (try simp only [seval, go_sem]))); refine FinV.own 999 rfl ?_; simp only [finE, finS, gt, look, SV.toV, SC.toV, allV, tupV, List.map_cons, List.map_nil, List.length_cons, List.length_nil, Nat.reduceAdd, Nat.reduceEqDiff, reduceCtorEq, if_true, if_false, reduceIte, Nat.succ_ne_self, true_and, List.getElem?_cons_zero, Nat.zero_add, Nat.add_zero])
            rw [w1, crdHear_bad hdead hno h33]
            exact ⟨A3, k3, rfl, h3, Sl.nil _ _ _⟩
          · have h33 : (segPut r.join ⟨f.seg, f.len, f.data⟩).2.2 = 2 := by simpa using hg
            (refine FinV.frz 4 rfl rfl (fun b4 z4 hz4 hr4 => ?_)); dsimp only at hz4; simp only [seval, go_sem, Go.Proofs.YtpjaidjnamngaaaGreat.frz, subV, subC, subE, subL]
            (refine FinV.give 1000 0 2001 2000 rfl rfl rfl ?_); simp only [seval, go_sem, giveSt, subV, subC, subE, subL]
            (refine FinV.tf (Tf.pack 999 [1000] (by simp only [popL, look, del, Nat.reduceEqDiff, reduceCtorEq, if_true, if_false, reduceIte, Nat.succ_ne_self]; exact rfl) (by simp only [look, Nat.reduceEqDiff, reduceCtorEq, if_true, if_false, reduceIte])) ?_); dsimp only
            (((try simp only [seval, go_sem]); repeat ((first | with_reducible refine vsI.id ?_ | with_reducible refine vcI_cond ?_); (try simp only [seval, go_sem]))); refine FinV.own 999 rfl ?_; simp only [finE, finS, gt, look, SV.toV, SC.toV, allV, tupV, List.map_cons, List.map_nil, List.length_cons, List.length_nil, Nat.reduceAdd, Nat.reduceEqDiff, reduceCtorEq, if_true, if_false, reduceIte, Nat.succ_ne_self, true_and, List.getElem?_cons_zero, Nat.zero_add, Nat.add_zero])
            rw [w1, crdHear_yes hdead hno (by omega), if_pos h33]
            exact ⟨A3, k3, rfl, h3.mono hz4, _, _, _, rfl, Nat.le_refl _, Els.single (d := sduRep) ⟨_, rfl, h4.mono hz4⟩, hr4⟩
          · have h33 : (segPut r.join ⟨f.seg, f.len, f.data⟩).2.2 ≠ 2 := by simpa using hg
            (refine FinV.give 1000 0 2001 2000 rfl rfl rfl ?_); simp only [seval, go_sem, giveSt, subV, subC, subE, subL]
            (refine FinV.tf (Tf.pack 999 [1000] (by simp only [popL, look, del, Nat.reduceEqDiff, reduceCtorEq, if_true, if_false, reduceIte, Nat.succ_ne_self]; exact rfl) (by simp only [look, Nat.reduceEqDiff, reduceCtorEq, if_true, if_false, reduceIte])) ?_); dsimp only
            (((try simp only [seval, go_sem]); repeat ((first | with_reducible refine vsI.id ?_ | with_reducible refine vcI_cond ?_); (try simp only [seval, go_sem]))); refine FinV.own 999 rfl ?_; simp only [finE, finS, gt, look, SV.toV, SC.toV, allV, tupV, List.map_cons, List.map_nil, List.length_cons, List.length_nil, Nat.reduceAdd, Nat.reduceEqDiff, reduceCtorEq, if_true, if_false, reduceIte, Nat.succ_ne_self, true_and, List.getElem?_cons_zero, Nat.zero_add, Nat.add_zero])
            rw [w1, crdHear_yes hdead hno (by rename_i hg1; simpa using hg1), if_neg h33]
            exact ⟨A3, k3, rfl, h3, Sl.nil _ _ _⟩
theorem crdHearG_no {c : Cfg} {r : CRx} {f : Frm} (h : ¬ (cfgOk c = true ∧ crxOk r = true ∧ f.kind = 3 ∧ frmOk f = true)) : crdHearG c r f = (crx0, []) := by unfold crdHearG; rw [if_neg h]
theorem crdHearG_ok {c : Cfg} {r : CRx} {f : Frm} (h : cfgOk c = true ∧ crxOk r = true ∧ f.kind = 3 ∧ frmOk f = true) : crdHearG c r f = crdHear c r f := by unfold crdHearG; rw [if_pos h]
theorem crdhear_i (c : Cfg) (r : CRx) (f : Frm) (q u : Value) (z : Zc) (hq : By z r.join.got q) (hu : By z f.data u) (hl : r.join.got.length ≤ 1000000000) (hj : -1000000000 ≤ r.join.len) (hf : f.data.length ≤ 100000) :
    PSpec Tryz.prog 12 [vCfg c, vCRx r q, vFrm f u] z fun v z' => ∃ q' w, v = .tuple #[vCRx (crdHearG c r f).1 q', w] ∧ By z' (crdHearG c r f).1.join.got q' ∧ Sl sduRep z' (crdHearG c r f).2 w := by
  obtain ⟨A, k, rfl, hk, hB, hrd⟩ := hq.form
  obtain ⟨A2, k2, rfl, hk2, hB2, hr2⟩ := hu.form
  (refine pspec_enter Tryz.func12 ic12_ok fr12_ok Tryz.ntmps12 ?_; simp only [seval, go_sem, ic12, fr12])
  have hf8 : f.data.length ≤ 100000000 := by omega
  (try simp only [seval, go_sem]); repeat' (first | (with_reducible refine vsI.id ?_; (try simp only [seval, go_sem])) | (with_reducible refine vcI_cond ?_; (try simp only [seval, go_sem])) | (with_reducible refine guardR.split (fun hg => ?_) (fun hg => ?_) <;> (try simp only [hg]) <;> simp only [seval, go_sem]) | (with_reducible refine condI.split (fun hg => ?_) (fun hg => ?_) <;> (try simp only [hg]) <;> (try simp only [seval, go_sem])) | (with_reducible refine callM.toT ?_) | (refine callP (cfgok_i _ _) rfl rfl ?_; rintro _ _ - ⟨rfl, rfl⟩; (try simp only [seval, go_sem])) | (refine callP (crxok_i r A k _ hl hj) rfl rfl ?_; rintro _ _ - ⟨rfl, rfl⟩; (try simp only [seval, go_sem])) | (refine callP (frmOk_i f _ z hu hf8) rfl rfl ?_; rintro _ _ - ⟨rfl, rfl⟩; (try simp only [seval, go_sem])))
  · (((try simp only [seval, go_sem]); repeat ((first | with_reducible refine vsI.id ?_ | with_reducible refine vcI_cond ?_); (try simp only [seval, go_sem]))); with_reducible refine FinV.of ?_; simp only [finE, finS, gt, look, SV.toV, SC.toV, allV, tupV, List.map_cons, List.map_nil, List.length_cons, List.length_nil, Nat.reduceAdd, Nat.reduceEqDiff, reduceCtorEq, if_true, if_false, reduceIte, Nat.succ_ne_self, true_and, List.getElem?_cons_zero, Nat.zero_add, Nat.add_zero])
    rw [crdHearG_no (by simp_all)]
    exact ⟨_, _, rfl, Sl.nil _ _ _, Sl.nil _ _ _⟩
  · (((try simp only [seval, go_sem]); repeat ((first | with_reducible refine vsI.id ?_ | with_reducible refine vcI_cond ?_); (try simp only [seval, go_sem]))); with_reducible refine FinV.of ?_; simp only [finE, finS, gt, look, SV.toV, SC.toV, allV, tupV, List.map_cons, List.map_nil, List.length_cons, List.length_nil, Nat.reduceAdd, Nat.reduceEqDiff, reduceCtorEq, if_true, if_false, reduceIte, Nat.succ_ne_self, true_and, List.getElem?_cons_zero, Nat.zero_add, Nat.add_zero])
    rw [crdHearG_no (by simp_all)]
    exact ⟨_, _, rfl, Sl.nil _ _ _, Sl.nil _ _ _⟩
  · (((try simp only [seval, go_sem]); repeat ((first | with_reducible refine vsI.id ?_ | with_reducible refine vcI_cond ?_); (try simp only [seval, go_sem]))); with_reducible refine FinV.of ?_; simp only [finE, finS, gt, look, SV.toV, SC.toV, allV, tupV, List.map_cons, List.map_nil, List.length_cons, List.length_nil, Nat.reduceAdd, Nat.reduceEqDiff, reduceCtorEq, if_true, if_false, reduceIte, Nat.succ_ne_self, true_and, List.getElem?_cons_zero, Nat.zero_add, Nat.add_zero])
    rw [crdHearG_no (by simp_all)]
    exact ⟨_, _, rfl, Sl.nil _ _ _, Sl.nil _ _ _⟩
  · (((try simp only [seval, go_sem]); repeat ((first | with_reducible refine vsI.id ?_ | with_reducible refine vcI_cond ?_); (try simp only [seval, go_sem]))); with_reducible refine FinV.of ?_; simp only [finE, finS, gt, look, SV.toV, SC.toV, allV, tupV, List.map_cons, List.map_nil, List.length_cons, List.length_nil, Nat.reduceAdd, Nat.reduceEqDiff, reduceCtorEq, if_true, if_false, reduceIte, Nat.succ_ne_self, true_and, List.getElem?_cons_zero, Nat.zero_add, Nat.add_zero])
    rw [crdHearG_no (by simp_all)]
    exact ⟨_, _, rfl, Sl.nil _ _ _, Sl.nil _ _ _⟩
  have hok : cfgOk c = true ∧ crxOk r = true ∧ f.kind = 3 ∧ frmOk f = true := by simp_all
  have hc := cfgOk_iff.1 hok.1
  have hr := crxOk_iff.1 hok.2.1
  (try with_reducible refine callM.toT ?_); refine callP (crxcopy_i r _ z hq hl) rfl rfl ?_; rintro v z2 hz2 ⟨A3, rfl, h3⟩; (try simp only [seval, go_sem]); ((try simp only [seval, go_sem]); repeat ((first | with_reducible refine vsI.id ?_ | with_reducible refine vcI_cond ?_); (try simp only [seval, go_sem])))
  (refine callT.give 90 4 2001 rfl rfl (fun b => ?_)); simp only [seval, go_sem, giveSt, subV, subC, subE, subL]
  (refine callT.tf (Tf.pack 91 [90] (by simp only [popL, look, del, Nat.reduceEqDiff, reduceCtorEq, if_true, if_false, reduceIte, Nat.succ_ne_self]; exact rfl) (by simp only [look, Nat.reduceEqDiff, reduceCtorEq, if_true, if_false, reduceIte])) ?_); dsimp only
  (try with_reducible refine callM.toT ?_); refine callW 91 (crdhear1 b c r f _ _ z2 h3 (hu.mono hz2) hc hr (frm3 hok.2.2.2 hok.2.2.1)) rfl rfl rfl rfl ?_; rintro v z3 A' hz3 ⟨A4, k4, rfl, h4, A5, k5, cs5, rfl, hk5, he5, hr5⟩; (try simp only [seval, go_sem])
  (refine vsI.tf (Tf.open' 91 [92] rfl rfl rfl) ?_); simp only [seval, go_sem, zipL]
  (refine vsI.take 92 4 2001 rfl rfl rfl ?_); simp only [seval, go_sem, takeSt, unV, vals]; ((try simp only [seval, go_sem]); repeat ((first | with_reducible refine vsI.id ?_ | with_reducible refine vcI_cond ?_); (try simp only [seval, go_sem])))
  have hgot := (crdHear_ok (c := c) (f := f) hr (frm3 hok.2.2.2 hok.2.2.1)).1.2.le
  (try with_reducible refine callM.toT ?_); refine callP (crxcopy_i (crdHear c r f).1 _ z3 h4 (by omega)) rfl rfl ?_; rintro v z4 hz4 ⟨A6, rfl, h6⟩; (try simp only [seval, go_sem]); ((try simp only [seval, go_sem]); repeat ((first | with_reducible refine vsI.id ?_ | with_reducible refine vcI_cond ?_); (try simp only [seval, go_sem])))
  (((try simp only [seval, go_sem]); repeat ((first | with_reducible refine vsI.id ?_ | with_reducible refine vcI_cond ?_); (try simp only [seval, go_sem]))); with_reducible refine FinV.of ?_; simp only [finE, finS, gt, look, SV.toV, SC.toV, allV, tupV, List.map_cons, List.map_nil, List.length_cons, List.length_nil, Nat.reduceAdd, Nat.reduceEqDiff, reduceCtorEq, if_true, if_false, reduceIte, Nat.succ_ne_self, true_and, List.getElem?_cons_zero, Nat.zero_add, Nat.add_zero])
  rw [crdHearG_ok hok]
  exact ⟨_, _, rfl, h6, A5, k5, cs5, rfl, hk5, he5.mono hz4, hr5.mono hz4⟩
end Go.Proofs.YtpjaidjnamngaaaGreat
namespace Go.Proofs.YtpjaidjnamngaaaGreat
set_option linter.unusedVariables false
set_option linter.unusedSimpArgs false
open Go.RowKit
set_option maxRecDepth 100000
set_option maxHeartbeats 1000000
theorem crdput_s (c : Cfg) (t : CTx) (sdu : List Int) (q v : Value) (z : Zc) (h : Sl pRep z t.queue q) (hl : t.queue.length ≤ 1000000000) (hp : ∀ p ∈ t.queue, p.data.length ≤ 1000000000) (hv : By z sdu v) (hs : sdu.length ≤ 100000) :
    PSpec Tryz.prog 110 [vCfg c, vCTx t q, v] z fun u z' => ∃ q', u = .tuple #[vCTx (crdPutG c t sdu).1 q', .bool (crdPutG c t sdu).2] ∧ Sl pRep z' (crdPutG c t sdu).1.queue q' := by
  obtain ⟨A, k, cs, rfl, hk, he, hr⟩ := h
  obtain ⟨Av, kv, rfl, hkv, hBv, hrv⟩ := hv.form
  (refine pspec_enter Tryz.func110 ic110_ok fr110_ok Tryz.ntmps110 ?_; simp only [seval, go_sem, ic110, fr110])
  ((try simp only [seval, go_sem]); repeat ((first | with_reducible refine vsI.id ?_ | with_reducible refine vcI_cond ?_); (try simp only [seval, go_sem])))
  (try with_reducible refine callM.toT ?_); refine callP (ctxok_s c t _ z ⟨A, k, cs, rfl, hk, he, hr⟩ hl hp) rfl rfl ?_; rintro u z1 hz1 rfl; (try simp only [seval, go_sem]); ((try simp only [seval, go_sem]); repeat ((first | with_reducible refine vsI.id ?_ | with_reducible refine vcI_cond ?_); (try simp only [seval, go_sem])))
  (with_reducible refine condI.split (fun hg => ?_) (fun hg => ?_) <;> (try simp only [hg]) <;> (try simp only [seval, go_sem]))
  · (((try simp only [seval, go_sem]); repeat ((first | with_reducible refine vsI.id ?_ | with_reducible refine vcI_cond ?_); (try simp only [seval, go_sem]))); with_reducible refine FinV.of ?_; simp only [finE, finS, gt, look, SV.toV, SC.toV, allV, tupV, List.map_cons, List.map_nil, List.length_cons, List.length_nil, Nat.reduceAdd, Nat.reduceEqDiff, reduceCtorEq, if_true, if_false, reduceIte, Nat.succ_ne_self, true_and, List.getElem?_cons_zero, Nat.zero_add, Nat.add_zero])
    rw [crdPutG_no (by simpa using hg)]
    exact ⟨_, rfl, Sl.nil _ _ _⟩
  · have hok : ctxOk c t = true := by simpa using hg
    have hI := ctxOk_iff.1 hok
    have hq := hI.queue
    have hmps := hI.cfg.mps
    ((try simp only [seval, go_sem]); repeat ((first | with_reducible refine vsI.id ?_ | with_reducible refine vcI_cond ?_); (try simp only [seval, go_sem])))
    (try with_reducible refine callM.toT ?_); refine callO 90 (l8tx t _ z1 (Sl.mono hz1 ⟨A, k, cs, rfl, hk, he, hr⟩) (by omega) hp) rfl rfl rfl ?_; rintro u z2 A' hz2 ⟨A2, k2, cs2, rfl, rfl, hk2, he2⟩; (try simp only [seval, go_sem]); ((try simp only [seval, go_sem]); repeat ((first | with_reducible refine vsI.id ?_ | with_reducible refine vcI_cond ?_); (try simp only [seval, go_sem])))
    (try with_reducible refine callM.toT ?_); refine callP (segCut_s sdu c.mps _ z2 (hv.mono (Zc.trans' hz1 hz2)) hs (by omega)) rfl rfl ?_; rintro u z3 hz3 ⟨A3, k3, cs3, rfl, hk3, he3, hr3⟩; (try simp only [seval, go_sem]); ((try simp only [seval, go_sem]); repeat ((first | with_reducible refine vsI.id ?_ | with_reducible refine vcI_cond ?_); (try simp only [seval, go_sem])))
    have h24 := segCut_length sdu c.mps
    have w1 : IntKind.i64.wrap ((t.queue.length : Int) + ((segCut sdu c.mps).length : Int)) = ((t.queue.length + (segCut sdu c.mps).length : Nat) : Int) := by rw [wrap_in (by omega) (by omega)]; omega
    (try simp only [seval, go_sem]); repeat' (first | (with_reducible refine vsI.id ?_; (try simp only [seval, go_sem])) | (with_reducible refine vcI_cond ?_; (try simp only [seval, go_sem])) | (with_reducible refine guardR.split (fun hg => ?_) (fun hg => ?_) <;> (try simp only [hg]) <;> simp only [seval, go_sem]) | (with_reducible refine condI.split (fun hg => ?_) (fun hg => ?_) <;> (try simp only [hg]) <;> (try simp only [seval, go_sem])) | (with_reducible refine callM.toT ?_))
    · (refine FinV.frzR 90 rfl (fun A4 c4 z4 hv4 hc4 hz4 hr4 => ?_)); dsimp only at hz4; (injection hv4 with hv_1 hv_2 hv_3; subst hv_1; subst hv_3); simp only [seval, go_sem]
      (((try simp only [seval, go_sem]); repeat ((first | with_reducible refine vsI.id ?_ | with_reducible refine vcI_cond ?_); (try simp only [seval, go_sem]))); with_reducible refine FinV.of ?_; simp only [finE, finS, gt, look, SV.toV, SC.toV, allV, tupV, List.map_cons, List.map_nil, List.length_cons, List.length_nil, Nat.reduceAdd, Nat.reduceEqDiff, reduceCtorEq, if_true, if_false, reduceIte, Nat.succ_ne_self, true_and, List.getElem?_cons_zero, Nat.zero_add, Nat.add_zero])
      rw [crdPutG_same hok (.inl hg)]
      exact ⟨_, by simp only [vCTx, hg], _, _, _, rfl, hk2, he2.mono (Zc.trans' hz3 hz4), hr4⟩
    · (refine FinV.frzR 90 rfl (fun A4 c4 z4 hv4 hc4 hz4 hr4 => ?_)); dsimp only at hz4; (injection hv4 with hv_1 hv_2 hv_3; subst hv_1; subst hv_3); simp only [seval, go_sem]
      (((try simp only [seval, go_sem]); repeat ((first | with_reducible refine vsI.id ?_ | with_reducible refine vcI_cond ?_); (try simp only [seval, go_sem]))); with_reducible refine FinV.of ?_; simp only [finE, finS, gt, look, SV.toV, SC.toV, allV, tupV, List.map_cons, List.map_nil, List.length_cons, List.length_nil, Nat.reduceAdd, Nat.reduceEqDiff, reduceCtorEq, if_true, if_false, reduceIte, Nat.succ_ne_self, true_and, List.getElem?_cons_zero, Nat.zero_add, Nat.add_zero])
      rw [crdPutG_same hok (.inr (.inl (by simpa using hg)))]
      rename_i hdead
      exact ⟨_, by simp only [vCTx, hdead], _, _, _, rfl, hk2, he2.mono (Zc.trans' hz3 hz4), hr4⟩
    · (refine FinV.frzR 90 rfl (fun A4 c4 z4 hv4 hc4 hz4 hr4 => ?_)); dsimp only at hz4; (injection hv4 with hv_1 hv_2 hv_3; subst hv_1; subst hv_3); simp only [seval, go_sem]
      (((try simp only [seval, go_sem]); repeat ((first | with_reducible refine vsI.id ?_ | with_reducible refine vcI_cond ?_); (try simp only [seval, go_sem]))); with_reducible refine FinV.of ?_; simp only [finE, finS, gt, look, SV.toV, SC.toV, allV, tupV, List.map_cons, List.map_nil, List.length_cons, List.length_nil, Nat.reduceAdd, Nat.reduceEqDiff, reduceCtorEq, if_true, if_false, reduceIte, Nat.succ_ne_self, true_and, List.getElem?_cons_zero, Nat.zero_add, Nat.add_zero])
      rw [w1] at hg
      rw [crdPutG_same hok (.inr (.inr (by simp at hg; omega)))]
      rename_i hdead _
      exact ⟨_, by simp only [vCTx, hdead], _, _, _, rfl, hk2, he2.mono (Zc.trans' hz3 hz4), hr4⟩
    · rw [w1] at hg
      rename_i hdead hmtu
      have hl3 : cs3.length = (segCut sdu c.mps).length * 3 := he3.length
      (try with_reducible refine appM.toT ?_); (refine appM_rowF 90 atyP rfl rfl rfl rfl hr3 (by first | omega | simp) (he3.one) (by omega) (fun A5 c5 hc5 => ?_)); simp only [seval, go_sem]; ((try simp only [seval, go_sem]); repeat ((first | with_reducible refine vsI.id ?_ | with_reducible refine vcI_cond ?_); (try simp only [seval, go_sem])))
      (first | refine callT.frzR 90 rfl (fun A4 c4 z4 hv4 hc4 hz4 hr4 => ?_) | refine callM.frzR 90 rfl (fun A4 c4 z4 hv4 hc4 hz4 hr4 => ?_)); dsimp only at hz4; (injection hv4 with hv_1 hv_2 hv_3; subst hv_1; subst hv_3); simp only [seval, go_sem]
      have he5 := ((he2.mono hz3).append he3).mono hz4
      have hsm : ∀ p ∈ t.queue ++ segCut sdu c.mps, p.data.length ≤ 1000000000 := fun p hp' => by
        rcases List.mem_append.1 hp' with g | g
        · exact hp p g
        · have := (segCut_mem g).2.1; omega
      (try with_reducible refine callM.toT ?_); refine callO 91 (l8tx ⟨t.hav, t.queue ++ segCut sdu c.mps, t.granted, t.sent, false⟩ (.slice A5 (t.queue.length + (segCut sdu c.mps).length) c5) z4 ⟨A5, c5, _, by rw [List.length_append], by rw [List.length_append]; exact hc4, he5, hr4⟩ (by rw [List.length_append]; omega) hsm) rfl rfl rfl ?_; rintro u z6 A' hz6 ⟨A6, k6, cs6, rfl, rfl, hk6, he6⟩; (try simp only [seval, go_sem]); ((try simp only [seval, go_sem]); repeat ((first | with_reducible refine vsI.id ?_ | with_reducible refine vcI_cond ?_); (try simp only [seval, go_sem])))
      (refine FinV.frzR 91 rfl (fun A7 c7 z7 hv7 hc7 hz7 hr7 => ?_)); dsimp only at hz7; (injection hv7 with hv_1 hv_2 hv_3; subst hv_1; subst hv_3); simp only [seval, go_sem]
      (((try simp only [seval, go_sem]); repeat ((first | with_reducible refine vsI.id ?_ | with_reducible refine vcI_cond ?_); (try simp only [seval, go_sem]))); with_reducible refine FinV.of ?_; simp only [finE, finS, gt, look, SV.toV, SC.toV, allV, tupV, List.map_cons, List.map_nil, List.length_cons, List.length_nil, Nat.reduceAdd, Nat.reduceEqDiff, reduceCtorEq, if_true, if_false, reduceIte, Nat.succ_ne_self, true_and, List.getElem?_cons_zero, Nat.zero_add, Nat.add_zero])
      rw [crdPutG_yes hok hdead (by simpa using hmtu) (by simp at hg; omega)]
      exact ⟨_, by simp only [vCTx, hdead], _, _, _, rfl, hk6, he6.mono hz7, hr7⟩
theorem crdsend_s (c : Cfg) (t : CTx) (q : Value) (z : Zc) (h : Sl pRep z t.queue q) (hl : t.queue.length ≤ 1000000000) (hp : ∀ p ∈ t.queue, p.data.length ≤ 1000000000) :
    PSpec Tryz.prog 112 [vCfg c, vCTx t q] z fun u z' => ∃ q' f w, u = .tuple #[vCTx (crdSendG c t).1 q', f, w] ∧ Sl pRep z' (crdSendG c t).1.queue q' ∧ SayV z' (crdSendG c t).2 f w := by
  obtain ⟨A, k, cs, rfl, hk, he, hr⟩ := h
  (refine pspec_enter Tryz.func112 ic112_ok fr112_ok Tryz.ntmps112 ?_; simp only [seval, go_sem, ic112, fr112])
  ((try simp only [seval, go_sem]); repeat ((first | with_reducible refine vsI.id ?_ | with_reducible refine vcI_cond ?_); (try simp only [seval, go_sem])))
  (try with_reducible refine callM.toT ?_); refine callP (ctxok_s c t _ z ⟨A, k, cs, rfl, hk, he, hr⟩ hl hp) rfl rfl ?_; rintro u z1 hz1 rfl; (try simp only [seval, go_sem]); ((try simp only [seval, go_sem]); repeat ((first | with_reducible refine vsI.id ?_ | with_reducible refine vcI_cond ?_); (try simp only [seval, go_sem])))
  (with_reducible refine condI.split (fun hg => ?_) (fun hg => ?_) <;> (try simp only [hg]) <;> (try simp only [seval, go_sem]))
  · (((try simp only [seval, go_sem]); repeat ((first | with_reducible refine vsI.id ?_ | with_reducible refine vcI_cond ?_); (try simp only [seval, go_sem]))); with_reducible refine FinV.of ?_; simp only [finE, finS, gt, look, SV.toV, SC.toV, allV, tupV, List.map_cons, List.map_nil, List.length_cons, List.length_nil, Nat.reduceAdd, Nat.reduceEqDiff, reduceCtorEq, if_true, if_false, reduceIte, Nat.succ_ne_self, true_and, List.getElem?_cons_zero, Nat.zero_add, Nat.add_zero])
    rw [crdSendG_no (by simpa using hg)]
    exact ⟨_, _, _, rfl, Sl.nil _ _ _, _, rfl, Sl.nil _ _ _, rfl⟩
  · have hok : ctxOk c t = true := by simpa using hg
    have hI := ctxOk_iff.1 hok
    have hq := hI.queue
    ((try simp only [seval, go_sem]); repeat ((first | with_reducible refine vsI.id ?_ | with_reducible refine vcI_cond ?_); (try simp only [seval, go_sem])))
    (try with_reducible refine callM.toT ?_); refine callO 90 (l8tx t _ z1 (Sl.mono hz1 ⟨A, k, cs, rfl, hk, he, hr⟩) (by omega) hp) rfl rfl rfl ?_; rintro u z2 A' hz2 ⟨A2, k2, cs2, rfl, rfl, hk2, he2⟩; (try simp only [seval, go_sem])
    (refine vsI.frzR 90 rfl rfl (fun A4 c4 z4 hv4 hc4 hz4 hr4 => ?_)); (first | subst hv4 | (injection hv4 with hv_1 hv_2 hv_3; subst hv_1; subst hv_3)); simp only [seval, go_sem]; ((try simp only [seval, go_sem]); repeat ((first | with_reducible refine vsI.id ?_ | with_reducible refine vcI_cond ?_); (try simp only [seval, go_sem])))
    (try simp only [seval, go_sem]); repeat' (first | (with_reducible refine vsI.id ?_; (try simp only [seval, go_sem])) | (with_reducible refine vcI_cond ?_; (try simp only [seval, go_sem])) | (with_reducible refine guardR.split (fun hg => ?_) (fun hg => ?_) <;> (try simp only [hg]) <;> simp only [seval, go_sem]) | (with_reducible refine condI.split (fun hg => ?_) (fun hg => ?_) <;> (try simp only [hg]) <;> (try simp only [seval, go_sem])) | (with_reducible refine callM.toT ?_))
    · (((try simp only [seval, go_sem]); repeat ((first | with_reducible refine vsI.id ?_ | with_reducible refine vcI_cond ?_); (try simp only [seval, go_sem]))); with_reducible refine FinV.of ?_; simp only [finE, finS, gt, look, SV.toV, SC.toV, allV, tupV, List.map_cons, List.map_nil, List.length_cons, List.length_nil, Nat.reduceAdd, Nat.reduceEqDiff, reduceCtorEq, if_true, if_false, reduceIte, Nat.succ_ne_self, true_and, List.getElem?_cons_zero, Nat.zero_add, Nat.add_zero])
      rw [crdSendG_same hok (.inl hg)]
      exact ⟨_, vFrm frm0 (.slice none 0 0), _, by simp only [vCTx, hg]; rfl, ⟨_, _, _, rfl, hk2, he2.mono hz4, hr4⟩, _, rfl, Sl.nil _ _ _, rfl⟩
    · (((try simp only [seval, go_sem]); repeat ((first | with_reducible refine vsI.id ?_ | with_reducible refine vcI_cond ?_); (try simp only [seval, go_sem]))); with_reducible refine FinV.of ?_; simp only [finE, finS, gt, look, SV.toV, SC.toV, allV, tupV, List.map_cons, List.map_nil, List.length_cons, List.length_nil, Nat.reduceAdd, Nat.reduceEqDiff, reduceCtorEq, if_true, if_false, reduceIte, Nat.succ_ne_self, true_and, List.getElem?_cons_zero, Nat.zero_add, Nat.add_zero])
      rw [crdSendG_same hok (.inr (.inl (by simpa using hg)))]
      rename_i hdead
      exact ⟨_, vFrm frm0 (.slice none 0 0), _, by simp only [vCTx, hdead]; rfl, ⟨_, _, _, rfl, hk2, he2.mono hz4, hr4⟩, _, rfl, Sl.nil _ _ _, rfl⟩
    · (((try simp only [seval, go_sem]); repeat ((first | with_reducible refine vsI.id ?_ | with_reducible refine vcI_cond ?_); (try simp only [seval, go_sem]))); with_reducible refine FinV.of ?_; simp only [finE, finS, gt, look, SV.toV, SC.toV, allV, tupV, List.map_cons, List.map_nil, List.length_cons, List.length_nil, Nat.reduceAdd, Nat.reduceEqDiff, reduceCtorEq, if_true, if_false, reduceIte, Nat.succ_ne_self, true_and, List.getElem?_cons_zero, Nat.zero_add, Nat.add_zero])
      rw [crdSendG_same hok (.inr (.inr (.inl (List.eq_nil_of_length_eq_zero (by simp at hg; simp [hg])))))]
      rename_i hdead _
      exact ⟨_, vFrm frm0 (.slice none 0 0), _, by simp only [vCTx, hdead]; rfl, ⟨_, _, _, rfl, hk2, he2.mono hz4, hr4⟩, _, rfl, Sl.nil _ _ _, rfl⟩
    · (((try simp only [seval, go_sem]); repeat ((first | with_reducible refine vsI.id ?_ | with_reducible refine vcI_cond ?_); (try simp only [seval, go_sem]))); with_reducible refine FinV.of ?_; simp only [finE, finS, gt, look, SV.toV, SC.toV, allV, tupV, List.map_cons, List.map_nil, List.length_cons, List.length_nil, Nat.reduceAdd, Nat.reduceEqDiff, reduceCtorEq, if_true, if_false, reduceIte, Nat.succ_ne_self, true_and, List.getElem?_cons_zero, Nat.zero_add, Nat.add_zero])
      rw [crdSendG_same hok (.inr (.inr (.inr (by simpa using hg))))]
      rename_i hdead _ _
      exact ⟨_, vFrm frm0 (.slice none 0 0), _, by simp only [vCTx, hdead]; rfl, ⟨_, _, _, rfl, hk2, he2.mono hz4, hr4⟩, _, rfl, Sl.nil _ _ _, rfl⟩
    · rename_i hdead hhav hqn
      have hqn : 0 < t.queue.length := by simp at hqn; exact List.length_pos_iff.2 hqn
      obtain ⟨p, rest, hqe⟩ : ∃ p rest, t.queue = p :: rest := by
        cases hx : t.queue with
        | nil => rw [hx] at hqn; simp at hqn
        | cons p rest => exact ⟨p, rest, rfl⟩
      have hx : t.queue[0]? = some p := by rw [hqe]; rfl
      have hmem : p ∈ t.queue := by rw [hqe]; simp
      have hsm := hI.small p hmem
      have he4 := he2.mono hz4
      obtain ⟨c1, ⟨v1, rfl, hb⟩, hr1⟩ := he4.at hr4 hx
      obtain ⟨Ab, kb, rfl, hkb, hBb, hrb⟩ := hb.form
      refine ⟨⟨by omega, he4.isAt hr4 (by decide) hqn⟩, ?_⟩
      (refine ldF.agg _ rfl (by first | exact .inl hr1 | exact hr1) ?_; (try simp only [seval, go_sem]))
      ((try simp only [seval, go_sem]); repeat ((first | with_reducible refine vsI.id ?_ | with_reducible refine vcI_cond ?_); (try simp only [seval, go_sem])))
      refine ⟨by omega, ?_⟩; ((try simp only [seval, go_sem]); repeat ((first | with_reducible refine vsI.id ?_ | with_reducible refine vcI_cond ?_); (try simp only [seval, go_sem])))
      have hd1 : (t.queue.drop 1).length = t.queue.length - 1 := by simp
      have hq1 : t.queue.length - 1 = rest.length := by rw [hqe]; simp
      have hq2 : t.queue.drop 1 = rest := by rw [hqe]; rfl
      have hdr : Sl pRep z4 rest (.slice (cutA A2 k2 1 3) (t.queue.length - 1) (k2 - 1)) := by
        have := Sl.drop (k := 1) (⟨A2, k2, _, rfl, hk2, he4, hr4⟩ : Sl pRep z4 t.queue (.slice A2 t.queue.length k2))
        rwa [hq2] at this
      (try with_reducible refine callM.toT ?_); refine callO 91 (l6list_s rest _ z4 hdr (by omega) (fun p hp' => hp p (by rw [hqe]; exact List.mem_cons_of_mem _ hp'))) rfl rfl rfl ?_; rintro u z5 A' hz5 ⟨A5, k5, cs5, rfl, rfl, hk5, he5⟩; (try simp only [seval, go_sem]); ((try simp only [seval, go_sem]); repeat ((first | with_reducible refine vsI.id ?_ | with_reducible refine vcI_cond ?_); (try simp only [seval, go_sem])))
      (try with_reducible refine appM.toT ?_); (refine appM_empty 99 atyB rfl (by first | exact .inl ⟨_, rfl⟩ | exact .inr ⟨_, _, rfl⟩) rfl (hrb.mono hz5) (by first | omega | (simp <;> omega)) (bc_one _) (by omega) (fun A6 c6 z6 hz6 hc6 hr6 => ?_)); dsimp only at hz6; simp only [seval, go_sem]; ((try simp only [seval, go_sem]); repeat ((first | with_reducible refine vsI.id ?_ | with_reducible refine vcI_cond ?_); (try simp only [seval, go_sem])))
      (refine FinV.frzR 91 rfl (fun A7 c7 z7 hv7 hc7 hz7 hr7 => ?_)); dsimp only at hz7; (injection hv7 with hv_1 hv_2 hv_3; subst hv_1; subst hv_3); simp only [seval, go_sem]
      (((try simp only [seval, go_sem]); repeat ((first | with_reducible refine vsI.id ?_ | with_reducible refine vcI_cond ?_); (try simp only [seval, go_sem]))); with_reducible refine FinV.of ?_; simp only [finE, finS, gt, look, SV.toV, SC.toV, allV, tupV, List.map_cons, List.map_nil, List.length_cons, List.length_nil, Nat.reduceAdd, Nat.reduceEqDiff, reduceCtorEq, if_true, if_false, reduceIte, Nat.succ_ne_self, true_and, List.getElem?_cons_zero, Nat.zero_add, Nat.add_zero])
      have hhv := hI.hav
      have hsn := hI.sent
      rw [crdSendG_yes hok hdead (by simpa using hhav) hqe (by simpa using hg), wrap_in (by omega) (by omega), wrap_in (by omega) (by omega)]
      exact ⟨.slice A5 rest.length k5, vFrm ⟨3, 0, 0, false, false, 0, p.seg, p.len, p.data⟩ (.slice A6 p.data.length c6), .bool true, by simp only [vCTx, hdead], ⟨_, _, _, rfl, hk5, he5.mono (Zc.trans' hz6 hz7), hr7⟩, _, rfl, By.mk hc6 hBb (hr6.mono hz7), rfl⟩
theorem crdtake_s (c : Cfg) (t : CTx) (n : Int) (q : Value) (z : Zc) (h : Sl pRep z t.queue q) (hl : t.queue.length ≤ 1000000000) (hp : ∀ p ∈ t.queue, p.data.length ≤ 1000000000) :
    PSpec Tryz.prog 140 [vCfg c, vCTx t q, .int .i64 n] z fun u z' => ∃ q', u = vCTx (crdTakeG c t n) q' ∧ Sl pRep z' (crdTakeG c t n).queue q' := by
  obtain ⟨A, k, cs, rfl, hk, he, hr⟩ := h
  (refine pspec_enter Tryz.func140 ic140_ok fr140_ok Tryz.ntmps140 ?_; simp only [seval, go_sem, ic140, fr140])
  ((try simp only [seval, go_sem]); repeat ((first | with_reducible refine vsI.id ?_ | with_reducible refine vcI_cond ?_); (try simp only [seval, go_sem])))
  (try with_reducible refine callM.toT ?_); refine callP (ctxok_s c t _ z ⟨A, k, cs, rfl, hk, he, hr⟩ hl hp) rfl rfl ?_; rintro u z1 hz1 rfl; (try simp only [seval, go_sem]); ((try simp only [seval, go_sem]); repeat ((first | with_reducible refine vsI.id ?_ | with_reducible refine vcI_cond ?_); (try simp only [seval, go_sem])))
  (with_reducible refine guardR.split (fun hg => ?_) (fun hg => ?_) <;> (try simp only [hg]) <;> simp only [seval, go_sem])
  · ((try simp only [seval, go_sem]); repeat ((first | with_reducible refine vsI.id ?_ | with_reducible refine vcI_cond ?_); (try simp only [seval, go_sem])))
    (((try simp only [seval, go_sem]); repeat ((first | with_reducible refine vsI.id ?_ | with_reducible refine vcI_cond ?_); (try simp only [seval, go_sem]))); with_reducible refine FinV.of ?_; simp only [finE, finS, gt, look, SV.toV, SC.toV, allV, tupV, List.map_cons, List.map_nil, List.length_cons, List.length_nil, Nat.reduceAdd, Nat.reduceEqDiff, reduceCtorEq, if_true, if_false, reduceIte, Nat.succ_ne_self, true_and, List.getElem?_cons_zero, Nat.zero_add, Nat.add_zero])
    rw [crdTakeG_no (.inl (by simpa using hg))]
    exact ⟨_, rfl, Sl.nil _ _ _⟩
  · have hok : ctxOk c t = true := by simpa using hg
    have hI := ctxOk_iff.1 hok
    have hq := hI.queue
    ((try simp only [seval, go_sem]); repeat ((first | with_reducible refine vsI.id ?_ | with_reducible refine vcI_cond ?_); (try simp only [seval, go_sem])))
    (try with_reducible refine callM.toT ?_); refine callP (in_s n 1 255 z1) rfl rfl ?_; rintro _ _ - ⟨rfl, rfl⟩; (try simp only [seval, go_sem]); ((try simp only [seval, go_sem]); repeat ((first | with_reducible refine vsI.id ?_ | with_reducible refine vcI_cond ?_); (try simp only [seval, go_sem])))
    (with_reducible refine condI.split (fun hg => ?_) (fun hg => ?_) <;> (try simp only [hg]) <;> (try simp only [seval, go_sem]))
    · (((try simp only [seval, go_sem]); repeat ((first | with_reducible refine vsI.id ?_ | with_reducible refine vcI_cond ?_); (try simp only [seval, go_sem]))); with_reducible refine FinV.of ?_; simp only [finE, finS, gt, look, SV.toV, SC.toV, allV, tupV, List.map_cons, List.map_nil, List.length_cons, List.length_nil, Nat.reduceAdd, Nat.reduceEqDiff, reduceCtorEq, if_true, if_false, reduceIte, Nat.succ_ne_self, true_and, List.getElem?_cons_zero, Nat.zero_add, Nat.add_zero])
      rw [crdTakeG_no (.inr (by simpa [inB_no] using hg))]
      exact ⟨_, rfl, Sl.nil _ _ _⟩
    · have hn : 1 ≤ n ∧ n ≤ 255 := by simpa [inB_iff] using hg
      ((try simp only [seval, go_sem]); repeat ((first | with_reducible refine vsI.id ?_ | with_reducible refine vcI_cond ?_); (try simp only [seval, go_sem])))
      (try with_reducible refine callM.toT ?_); refine callO 90 (l8tx t _ z1 (Sl.mono hz1 ⟨A, k, cs, rfl, hk, he, hr⟩) (by omega) hp) rfl rfl rfl ?_; rintro u z2 A' hz2 ⟨A2, k2, cs2, rfl, rfl, hk2, he2⟩; (try simp only [seval, go_sem])
      (refine vsI.frzR 90 rfl rfl (fun A4 c4 z4 hv4 hc4 hz4 hr4 => ?_)); (first | subst hv4 | (injection hv4 with hv_1 hv_2 hv_3; subst hv_1; subst hv_3)); simp only [seval, go_sem]; ((try simp only [seval, go_sem]); repeat ((first | with_reducible refine vsI.id ?_ | with_reducible refine vcI_cond ?_); (try simp only [seval, go_sem])))
      have hs2 : Sl pRep z4 t.queue (.slice A2 t.queue.length k2) := ⟨_, _, _, rfl, hk2, he2.mono hz4, hr4⟩
      (with_reducible refine condI.split (fun hg => ?_) (fun hg => ?_) <;> (try simp only [hg]) <;> (try simp only [seval, go_sem]))
      · (((try simp only [seval, go_sem]); repeat ((first | with_reducible refine vsI.id ?_ | with_reducible refine vcI_cond ?_); (try simp only [seval, go_sem]))); with_reducible refine FinV.of ?_; simp only [finE, finS, gt, look, SV.toV, SC.toV, allV, tupV, List.map_cons, List.map_nil, List.length_cons, List.length_nil, Nat.reduceAdd, Nat.reduceEqDiff, reduceCtorEq, if_true, if_false, reduceIte, Nat.succ_ne_self, true_and, List.getElem?_cons_zero, Nat.zero_add, Nat.add_zero])
        rw [crdTakeG_dead hok hn hg]
        exact ⟨_, by simp only [vCTx, hg], hs2⟩
      · have hdead : t.dead = false := hg
        have hhv := hI.hav
        have hgr := hI.granted
        have w1 : IntKind.i64.wrap (t.hav + n) = t.hav + n := wrap_in (by omega) (by omega)
        have w2 : IntKind.i64.wrap (t.granted + n) = t.granted + n := wrap_in (by omega) (by omega)
        (try simp only [seval, go_sem]); repeat' (first | (with_reducible refine vsI.id ?_; (try simp only [seval, go_sem])) | (with_reducible refine vcI_cond ?_; (try simp only [seval, go_sem])) | (with_reducible refine guardR.split (fun hg => ?_) (fun hg => ?_) <;> (try simp only [hg]) <;> simp only [seval, go_sem]) | (with_reducible refine condI.split (fun hg => ?_) (fun hg => ?_) <;> (try simp only [hg]) <;> (try simp only [seval, go_sem])) | (with_reducible refine callM.toT ?_))
        all_goals (try simp only [w1, w2] at hg)
        all_goals (((try simp only [seval, go_sem]); repeat ((first | with_reducible refine vsI.id ?_ | with_reducible refine vcI_cond ?_); (try simp only [seval, go_sem]))); with_reducible refine FinV.of ?_; simp only [finE, finS, gt, look, SV.toV, SC.toV, allV, tupV, List.map_cons, List.map_nil, List.length_cons, List.length_nil, Nat.reduceAdd, Nat.reduceEqDiff, reduceCtorEq, if_true, if_false, reduceIte, Nat.succ_ne_self, true_and, List.getElem?_cons_zero, Nat.zero_add, Nat.add_zero])
        all_goals simp only [w1, w2, decide_eq_true_eq, decide_eq_false_iff_not] at *
        · rw [crdTakeG_end hok hn hdead (.inl (by assumption))]
          exact ⟨_, rfl, hs2⟩
        · rw [crdTakeG_end hok hn hdead (.inr (by assumption))]
          exact ⟨_, rfl, hs2⟩
        · rw [crdTakeG_yes hok hn hdead (by omega)]
          exact ⟨_, by simp only [vCTx, hdead], hs2⟩
theorem crdgrant_s (r : CRx) (q : Value) (z : Zc) (h : By z r.join.got q) (hl : r.join.got.length ≤ 1000000000) (hj : -1000000000 ≤ r.join.len) :
    PSpec Tryz.prog 118 [vCRx r q] z fun u z' => ∃ q' f w, u = .tuple #[vCRx (crdGrantG r).1 q', f, w] ∧ By z' (crdGrantG r).1.join.got q' ∧ SayV z' (crdGrantG r).2 f w := by
  obtain ⟨A, k, rfl, hk, hB, hr⟩ := h.form
  (refine pspec_enter Tryz.func118 ic118_ok fr118_ok Tryz.ntmps118 ?_; simp only [seval, go_sem, ic118, fr118])
  ((try simp only [seval, go_sem]); repeat ((first | with_reducible refine vsI.id ?_ | with_reducible refine vcI_cond ?_); (try simp only [seval, go_sem])))
  (try with_reducible refine callM.toT ?_); refine callP (crxok_s r A k z hl hj) rfl rfl ?_; rintro _ _ - ⟨rfl, rfl⟩; (try simp only [seval, go_sem]); ((try simp only [seval, go_sem]); repeat ((first | with_reducible refine vsI.id ?_ | with_reducible refine vcI_cond ?_); (try simp only [seval, go_sem])))
  (with_reducible refine condI.split (fun hg => ?_) (fun hg => ?_) <;> (try simp only [hg]) <;> (try simp only [seval, go_sem]))
  · (((try simp only [seval, go_sem]); repeat ((first | with_reducible refine vsI.id ?_ | with_reducible refine vcI_cond ?_); (try simp only [seval, go_sem]))); with_reducible refine FinV.of ?_; simp only [finE, finS, gt, look, SV.toV, SC.toV, allV, tupV, List.map_cons, List.map_nil, List.length_cons, List.length_nil, Nat.reduceAdd, Nat.reduceEqDiff, reduceCtorEq, if_true, if_false, reduceIte, Nat.succ_ne_self, true_and, List.getElem?_cons_zero, Nat.zero_add, Nat.add_zero])
    rw [crdGrantG_no (by simpa using hg)]
    exact ⟨_, vFrm frm0 (.slice none 0 0), _, rfl, Sl.nil _ _ _, _, rfl, Sl.nil _ _ _, rfl⟩
  · have hok : crxOk r = true := by simpa using hg
    have hI := crxOk_iff.1 hok
    ((try simp only [seval, go_sem]); repeat ((first | with_reducible refine vsI.id ?_ | with_reducible refine vcI_cond ?_); (try simp only [seval, go_sem])))
    (try with_reducible refine callM.toT ?_); refine callP (l8rx r _ z h hl) rfl rfl ?_; rintro u z2 hz2 ⟨A2, k2, rfl, hs2⟩; (try simp only [seval, go_sem]); ((try simp only [seval, go_sem]); repeat ((first | with_reducible refine vsI.id ?_ | with_reducible refine vcI_cond ?_); (try simp only [seval, go_sem])))
    (with_reducible refine guardR.split (fun hg => ?_) (fun hg => ?_) <;> (try simp only [hg]) <;> simp only [seval, go_sem])
    · ((try simp only [seval, go_sem]); repeat ((first | with_reducible refine vsI.id ?_ | with_reducible refine vcI_cond ?_); (try simp only [seval, go_sem])))
      (((try simp only [seval, go_sem]); repeat ((first | with_reducible refine vsI.id ?_ | with_reducible refine vcI_cond ?_); (try simp only [seval, go_sem]))); with_reducible refine FinV.of ?_; simp only [finE, finS, gt, look, SV.toV, SC.toV, allV, tupV, List.map_cons, List.map_nil, List.length_cons, List.length_nil, Nat.reduceAdd, Nat.reduceEqDiff, reduceCtorEq, if_true, if_false, reduceIte, Nat.succ_ne_self, true_and, List.getElem?_cons_zero, Nat.zero_add, Nat.add_zero])
      rw [crdGrantG_same hok (.inl hg)]
      exact ⟨_, vFrm frm0 (.slice none 0 0), _, by simp only [vCRx, hg]; rfl, hs2, _, rfl, Sl.nil _ _ _, rfl⟩
    · have hdead : r.dead = false := hg
      ((try simp only [seval, go_sem]); repeat ((first | with_reducible refine vsI.id ?_ | with_reducible refine vcI_cond ?_); (try simp only [seval, go_sem])))
      (with_reducible refine condI.split (fun hg => ?_) (fun hg => ?_) <;> (try simp only [hg]) <;> (try simp only [seval, go_sem]))
      · (((try simp only [seval, go_sem]); repeat ((first | with_reducible refine vsI.id ?_ | with_reducible refine vcI_cond ?_); (try simp only [seval, go_sem]))); with_reducible refine FinV.of ?_; simp only [finE, finS, gt, look, SV.toV, SC.toV, allV, tupV, List.map_cons, List.map_nil, List.length_cons, List.length_nil, Nat.reduceAdd, Nat.reduceEqDiff, reduceCtorEq, if_true, if_false, reduceIte, Nat.succ_ne_self, true_and, List.getElem?_cons_zero, Nat.zero_add, Nat.add_zero])
        rw [crdGrantG_same hok (.inr (by simpa using hg))]
        exact ⟨_, vFrm frm0 (.slice none 0 0), _, by simp only [vCRx, hdead]; rfl, hs2, _, rfl, Sl.nil _ _ _, rfl⟩
      · ((try simp only [seval, go_sem]); repeat ((first | with_reducible refine vsI.id ?_ | with_reducible refine vcI_cond ?_); (try simp only [seval, go_sem])))
        (((try simp only [seval, go_sem]); repeat ((first | with_reducible refine vsI.id ?_ | with_reducible refine vcI_cond ?_); (try simp only [seval, go_sem]))); with_reducible refine FinV.of ?_; simp only [finE, finS, gt, look, SV.toV, SC.toV, allV, tupV, List.map_cons, List.map_nil, List.length_cons, List.length_nil, Nat.reduceAdd, Nat.reduceEqDiff, reduceCtorEq, if_true, if_false, reduceIte, Nat.succ_ne_self, true_and, List.getElem?_cons_zero, Nat.zero_add, Nat.add_zero])
        have := hI.1
        rw [crdGrantG_yes hok hdead (by simpa using hg), wrap_in (by omega) (by omega)]
        exact ⟨_, vFrm ⟨4, 0, 0, false, false, 0, 0, 6 - r.out, []⟩ (.slice none 0 0), .bool true, by simp only [vCRx, hdead], hs2, _, rfl, Sl.nil _ _ _, rfl⟩
end Go.Proofs.YtpjaidjnamngaaaGreat
namespace Go.Proofs.YtpjaidjnamngaaaGreat
set_option linter.unusedVariables false
set_option linter.unusedSimpArgs false
open Go.RowKit
set_option maxRecDepth 100000
set_option maxHeartbeats 1000000
theorem crdhear_s (c : Cfg) (r : CRx) (f : Frm) (q u : Value) (z : Zc) (hq : By z r.join.got q) (hu : By z f.data u) (hl : r.join.got.length ≤ 1000000000) (hj : -1000000000 ≤ r.join.len) (hf : f.data.length ≤ 100000) :
    PSpec Tryz.prog 141 [vCfg c, vCRx r q, vFrm f u] z fun v z' => ∃ q' w, v = .tuple #[vCRx (crdHearG c r f).1 q', w] ∧ By z' (crdHearG c r f).1.join.got q' ∧ Sl sduRep z' (crdHearG c r f).2 w := by
  obtain ⟨A, k, rfl, hk, hB, hrd⟩ := hq.form
  obtain ⟨A2, k2, rfl, hk2, hB2, hr2⟩ := hu.form
  (refine pspec_enter Tryz.func141 ic141_ok fr141_ok Tryz.ntmps141 ?_; simp only [seval, go_sem, ic141, fr141])
  have hf8 : f.data.length ≤ 100000000 := by omega
  (try simp only [seval, go_sem]); repeat' (first | (with_reducible refine vsI.id ?_; (try simp only [seval, go_sem])) | (with_reducible refine vcI_cond ?_; (try simp only [seval, go_sem])) | (with_reducible refine guardR.split (fun hg => ?_) (fun hg => ?_) <;> (try simp only [hg]) <;> simp only [seval, go_sem]) | (with_reducible refine condI.split (fun hg => ?_) (fun hg => ?_) <;> (try simp only [hg]) <;> (try simp only [seval, go_sem])) | (with_reducible refine callM.toT ?_) | (refine callP (cfgok_s _ _) rfl rfl ?_; rintro _ _ - ⟨rfl, rfl⟩; (try simp only [seval, go_sem])) | (refine callP (crxok_s r A k _ hl hj) rfl rfl ?_; rintro _ _ - ⟨rfl, rfl⟩; (try simp only [seval, go_sem])) | (refine callP (frmOk_s f _ z hu hf8) rfl rfl ?_; rintro _ _ - ⟨rfl, rfl⟩; (try simp only [seval, go_sem])))
  · (refine FinV.frz 4 rfl rfl (fun b4 z4 hz4 hr4 => ?_)); dsimp only at hz4; simp only [seval, go_sem, Go.Proofs.YtpjaidjnamngaaaGreat.frz, subV, subC, subE, subL]
    (((try simp only [seval, go_sem]); repeat ((first | with_reducible refine vsI.id ?_ | with_reducible refine vcI_cond ?_); (try simp only [seval, go_sem]))); with_reducible refine FinV.of ?_; simp only [finE, finS, gt, look, SV.toV, SC.toV, allV, tupV, List.map_cons, List.map_nil, List.length_cons, List.length_nil, Nat.reduceAdd, Nat.reduceEqDiff, reduceCtorEq, if_true, if_false, reduceIte, Nat.succ_ne_self, true_and, List.getElem?_cons_zero, Nat.zero_add, Nat.add_zero])
    rw [crdHearG_no (by simp_all)]
    exact ⟨_, _, rfl, Sl.nil _ _ _, Sl.nil _ _ _⟩
  · (refine FinV.frz 4 rfl rfl (fun b4 z4 hz4 hr4 => ?_)); dsimp only at hz4; simp only [seval, go_sem, Go.Proofs.YtpjaidjnamngaaaGreat.frz, subV, subC, subE, subL]
    (((try simp only [seval, go_sem]); repeat ((first | with_reducible refine vsI.id ?_ | with_reducible refine vcI_cond ?_); (try simp only [seval, go_sem]))); with_reducible refine FinV.of ?_; simp only [finE, finS, gt, look, SV.toV, SC.toV, allV, tupV, List.map_cons, List.map_nil, List.length_cons, List.length_nil, Nat.reduceAdd, Nat.reduceEqDiff, reduceCtorEq, if_true, if_false, reduceIte, Nat.succ_ne_self, true_and, List.getElem?_cons_zero, Nat.zero_add, Nat.add_zero])
    rw [crdHearG_no (by simp_all)]
    exact ⟨_, _, rfl, Sl.nil _ _ _, Sl.nil _ _ _⟩
  · (refine FinV.frz 4 rfl rfl (fun b4 z4 hz4 hr4 => ?_)); dsimp only at hz4; simp only [seval, go_sem, Go.Proofs.YtpjaidjnamngaaaGreat.frz, subV, subC, subE, subL]
    (((try simp only [seval, go_sem]); repeat ((first | with_reducible refine vsI.id ?_ | with_reducible refine vcI_cond ?_); (try simp only [seval, go_sem]))); with_reducible refine FinV.of ?_; simp only [finE, finS, gt, look, SV.toV, SC.toV, allV, tupV, List.map_cons, List.map_nil, List.length_cons, List.length_nil, Nat.reduceAdd, Nat.reduceEqDiff, reduceCtorEq, if_true, if_false, reduceIte, Nat.succ_ne_self, true_and, List.getElem?_cons_zero, Nat.zero_add, Nat.add_zero])
    rw [crdHearG_no (by simp_all)]
    exact ⟨_, _, rfl, Sl.nil _ _ _, Sl.nil _ _ _⟩
  · (refine FinV.frz 4 rfl rfl (fun b4 z4 hz4 hr4 => ?_)); dsimp only at hz4; simp only [seval, go_sem, Go.Proofs.YtpjaidjnamngaaaGreat.frz, subV, subC, subE, subL]
    (((try simp only [seval, go_sem]); repeat ((first | with_reducible refine vsI.id ?_ | with_reducible refine vcI_cond ?_); (try simp only [seval, go_sem]))); with_reducible refine FinV.of ?_; simp only [finE, finS, gt, look, SV.toV, SC.toV, allV, tupV, List.map_cons, List.map_nil, List.length_cons, List.length_nil, Nat.reduceAdd, Nat.reduceEqDiff, reduceCtorEq, if_true, if_false, reduceIte, Nat.succ_ne_self, true_and, List.getElem?_cons_zero, Nat.zero_add, Nat.add_zero])
    rw [crdHearG_no (by simp_all)]
    exact ⟨_, _, rfl, Sl.nil _ _ _, Sl.nil _ _ _⟩
  have hok : cfgOk c = true ∧ crxOk r = true ∧ f.kind = 3 ∧ frmOk f = true := by simp_all
  have hc := cfgOk_iff.1 hok.1
  have hr := crxOk_iff.1 hok.2.1
  have hp := frm3 hok.2.2.2 hok.2.2.1
  have hpb := pieceOk_bound hp
  have hj23 := hr.2.le
  have hjl : 0 ≤ r.join.len := by rcases hr.2 with h | h <;> omega
  have hro := hr.1
  have w1 : IntKind.i64.wrap (r.out - 1) = r.out - 1 := wrap_in (by omega) (by omega)
  rw [crdHearG_ok hok]
  (try with_reducible refine callM.toT ?_); refine callP (l8rx r _ z hq hl) rfl rfl ?_; rintro v z2 hz2 ⟨A3, k3, rfl, h3⟩; (try simp only [seval, go_sem]); ((try simp only [seval, go_sem]); repeat ((first | with_reducible refine vsI.id ?_ | with_reducible refine vcI_cond ?_); (try simp only [seval, go_sem])))
  (with_reducible refine condI.split (fun hg => ?_) (fun hg => ?_) <;> (try simp only [hg]) <;> (try simp only [seval, go_sem]))
  · ((try simp only [seval, go_sem]); repeat ((first | with_reducible refine vsI.id ?_ | with_reducible refine vcI_cond ?_); (try simp only [seval, go_sem])))
    (refine FinV.frz 5 rfl rfl (fun b4 z4 hz4 hr4 => ?_)); dsimp only at hz4; simp only [seval, go_sem, Go.Proofs.YtpjaidjnamngaaaGreat.frz, subV, subC, subE, subL]
    (((try simp only [seval, go_sem]); repeat ((first | with_reducible refine vsI.id ?_ | with_reducible refine vcI_cond ?_); (try simp only [seval, go_sem]))); with_reducible refine FinV.of ?_; simp only [finE, finS, gt, look, SV.toV, SC.toV, allV, tupV, List.map_cons, List.map_nil, List.length_cons, List.length_nil, Nat.reduceAdd, Nat.reduceEqDiff, reduceCtorEq, if_true, if_false, reduceIte, Nat.succ_ne_self, true_and, List.getElem?_cons_zero, Nat.zero_add, Nat.add_zero])
    rw [crdHear_dead hg]
    exact ⟨_, .slice (some ⟨b4, 0, none⟩) 0 0, by simp only [vCRx, hg], h3.mono hz4, Sl.nil _ _ _⟩
  · have hdead : r.dead = false := hg
    (try simp only [seval, go_sem]); repeat' (first | (with_reducible refine vsI.id ?_; (try simp only [seval, go_sem])) | (with_reducible refine vcI_cond ?_; (try simp only [seval, go_sem])) | (with_reducible refine guardR.split (fun hg => ?_) (fun hg => ?_) <;> (try simp only [hg]) <;> simp only [seval, go_sem]) | (with_reducible refine condI.split (fun hg => ?_) (fun hg => ?_) <;> (try simp only [hg]) <;> (try simp only [seval, go_sem])) | (with_reducible refine callM.toT ?_))
    · (refine FinV.frz 5 rfl rfl (fun b4 z4 hz4 hr4 => ?_)); dsimp only at hz4; simp only [seval, go_sem, Go.Proofs.YtpjaidjnamngaaaGreat.frz, subV, subC, subE, subL]
      (((try simp only [seval, go_sem]); repeat ((first | with_reducible refine vsI.id ?_ | with_reducible refine vcI_cond ?_); (try simp only [seval, go_sem]))); with_reducible refine FinV.of ?_; simp only [finE, finS, gt, look, SV.toV, SC.toV, allV, tupV, List.map_cons, List.map_nil, List.length_cons, List.length_nil, Nat.reduceAdd, Nat.reduceEqDiff, reduceCtorEq, if_true, if_false, reduceIte, Nat.succ_ne_self, true_and, List.getElem?_cons_zero, Nat.zero_add, Nat.add_zero])
      rw [crdHear_end hdead (.inl (by simpa using hg))]
      exact ⟨_, _, rfl, h3.mono hz4, Sl.nil _ _ _⟩
    · (refine FinV.frz 5 rfl rfl (fun b4 z4 hz4 hr4 => ?_)); dsimp only at hz4; simp only [seval, go_sem, Go.Proofs.YtpjaidjnamngaaaGreat.frz, subV, subC, subE, subL]
      (((try simp only [seval, go_sem]); repeat ((first | with_reducible refine vsI.id ?_ | with_reducible refine vcI_cond ?_); (try simp only [seval, go_sem]))); with_reducible refine FinV.of ?_; simp only [finE, finS, gt, look, SV.toV, SC.toV, allV, tupV, List.map_cons, List.map_nil, List.length_cons, List.length_nil, Nat.reduceAdd, Nat.reduceEqDiff, reduceCtorEq, if_true, if_false, reduceIte, Nat.succ_ne_self, true_and, List.getElem?_cons_zero, Nat.zero_add, Nat.add_zero])
      rw [crdHear_end hdead (.inr (.inl (by simpa using hg)))]
      exact ⟨_, _, rfl, h3.mono hz4, Sl.nil _ _ _⟩
    · (refine FinV.frz 5 rfl rfl (fun b4 z4 hz4 hr4 => ?_)); dsimp only at hz4; simp only [seval, go_sem, Go.Proofs.YtpjaidjnamngaaaGreat.frz, subV, subC, subE, subL]
      (((try simp only [seval, go_sem]); repeat ((first | with_reducible refine vsI.id ?_ | with_reducible refine vcI_cond ?_); (try simp only [seval, go_sem]))); with_reducible refine FinV.of ?_; simp only [finE, finS, gt, look, SV.toV, SC.toV, allV, tupV, List.map_cons, List.map_nil, List.length_cons, List.length_nil, Nat.reduceAdd, Nat.reduceEqDiff, reduceCtorEq, if_true, if_false, reduceIte, Nat.succ_ne_self, true_and, List.getElem?_cons_zero, Nat.zero_add, Nat.add_zero])
      rw [crdHear_end hdead (.inr (.inr (by simpa using hg)))]
      exact ⟨_, _, rfl, h3.mono hz4, Sl.nil _ _ _⟩
    · rename_i h0 h1
      have hno : ¬ (r.out = 0 ∨ f.len > c.mtu ∨ (f.data.length : Int) > c.mps) := by simp at h0 h1 hg; omega
      (try with_reducible refine callM.toT ?_); refine callP (puts r.join ⟨f.seg, f.len, f.data⟩ _ _ z2 h3 (hu.mono hz2) (by omega) (by show f.data.length ≤ _; omega) hjl (by show 0 ≤ f.seg ∧ f.seg ≤ 3; omega)) rfl rfl ?_; rintro v z3 hz3 ⟨A4, k4, A5, k5, rfl, h4, h5⟩; (try simp only [seval, go_sem]); ((try simp only [seval, go_sem]); repeat ((first | with_reducible refine vsI.id ?_ | with_reducible refine vcI_cond ?_); (try simp only [seval, go_sem])))
      have hpo := segPut_ok (p := ⟨f.seg, f.len, f.data⟩) hr.2 hp
      have hg23 := hpo.1.le
      (try simp only [seval, go_sem]); repeat' (first | (with_reducible refine vsI.id ?_; (try simp only [seval, go_sem])) | (with_reducible refine vcI_cond ?_; (try simp only [seval, go_sem])) | (with_reducible refine guardR.split (fun hg => ?_) (fun hg => ?_) <;> (try simp only [hg]) <;> simp only [seval, go_sem]) | (with_reducible refine condI.split (fun hg => ?_) (fun hg => ?_) <;> (try simp only [hg]) <;> (try simp only [seval, go_sem])) | (with_reducible refine callM.toT ?_))
      · exfalso
        rename_i g
        simp at g hg
        omega
      · rename_i g
        (try with_reducible refine callM.toT ?_); refine callP (l8rx ⟨IntKind.i64.wrap (r.out - 1), (segPut r.join ⟨f.seg, f.len, f.data⟩).1, true⟩ _ z3 h4 (by show (segPut r.join ⟨f.seg, f.len, f.data⟩).1.got.length ≤ _; omega)) rfl rfl ?_; rintro v z4 hz4 ⟨A6, k6, rfl, h6⟩; (try simp only [seval, go_sem]); ((try simp only [seval, go_sem]); repeat ((first | with_reducible refine vsI.id ?_ | with_reducible refine vcI_cond ?_); (try simp only [seval, go_sem])))
        (refine FinV.frz 6 rfl rfl (fun b4 z5 hz5 hr5 => ?_)); dsimp only at hz5; simp only [seval, go_sem, Go.Proofs.YtpjaidjnamngaaaGreat.frz, subV, subC, subE, subL]
        (((try simp only [seval, go_sem]); repeat ((first | with_reducible refine vsI.id ?_ | with_reducible refine vcI_cond ?_); (try simp only [seval, go_sem]))); with_reducible refine FinV.of ?_; simp only [finE, finS, gt, look, SV.toV, SC.toV, allV, tupV, List.map_cons, List.map_nil, List.length_cons, List.length_nil, Nat.reduceAdd, Nat.reduceEqDiff, reduceCtorEq, if_true, if_false, reduceIte, Nat.succ_ne_self, true_and, List.getElem?_cons_zero, Nat.zero_add, Nat.add_zero])
        rw [crdHear_bad hdead hno (by simpa using g), w1]
        exact ⟨_, _, rfl, h6.mono hz5, Sl.nil _ _ _⟩
      · rename_i g
        (try with_reducible refine callM.toT ?_); refine callP (l8rx ⟨IntKind.i64.wrap (r.out - 1), (segPut r.join ⟨f.seg, f.len, f.data⟩).1, false⟩ _ z3 h4 (by show (segPut r.join ⟨f.seg, f.len, f.data⟩).1.got.length ≤ _; omega)) rfl rfl ?_; rintro v z4 hz4 ⟨A6, k6, rfl, h6⟩; (try simp only [seval, go_sem]); ((try simp only [seval, go_sem]); repeat ((first | with_reducible refine vsI.id ?_ | with_reducible refine vcI_cond ?_); (try simp only [seval, go_sem])))
        (first | refine callT.frz 6 rfl rfl (fun b6 z6 hz6 hr6 => ?_) | refine callM.frz 6 rfl rfl (fun b6 z6 hz6 hr6 => ?_)); dsimp only at hz6; simp only [seval, go_sem, Go.Proofs.YtpjaidjnamngaaaGreat.frz, subV, subC, subE, subL]
        have h23 : (segPut r.join ⟨f.seg, f.len, f.data⟩).2.2 = 2 := by simpa using hg
        have h24 := (hpo.2 h23).1
        (try with_reducible refine callM.toT ?_); refine callO 90 (l7sdus_s [(segPut r.join ⟨f.seg, f.len, f.data⟩).2.1] (.slice (some ⟨b6, 0, none⟩) 1 1) z6 ⟨_, _, _, rfl, Nat.le_refl _, Els.single (d := sduRep) ⟨_, rfl, h5.mono (Zc.trans' hz4 hz6)⟩, hr6⟩ (by simp) (by simp; omega)) rfl rfl rfl ?_; rintro v z7 A' hz7 ⟨A7, k7, cs7, rfl, rfl, hk7, he7⟩; (try simp only [seval, go_sem]); ((try simp only [seval, go_sem]); repeat ((first | with_reducible refine vsI.id ?_ | with_reducible refine vcI_cond ?_); (try simp only [seval, go_sem])))
        (refine FinV.frzR 90 rfl (fun A8 c8 z8 hv8 hc8 hz8 hr8 => ?_)); dsimp only at hz8; (injection hv8 with hv_1 hv_2 hv_3; subst hv_1; subst hv_3); simp only [seval, go_sem]
        (((try simp only [seval, go_sem]); repeat ((first | with_reducible refine vsI.id ?_ | with_reducible refine vcI_cond ?_); (try simp only [seval, go_sem]))); with_reducible refine FinV.of ?_; simp only [finE, finS, gt, look, SV.toV, SC.toV, allV, tupV, List.map_cons, List.map_nil, List.length_cons, List.length_nil, Nat.reduceAdd, Nat.reduceEqDiff, reduceCtorEq, if_true, if_false, reduceIte, Nat.succ_ne_self, true_and, List.getElem?_cons_zero, Nat.zero_add, Nat.add_zero])
        rw [crdHear_yes hdead hno (by simpa using g), if_pos h23, w1]
        exact ⟨_, _, rfl, h6.mono (Zc.trans' hz6 (Zc.trans' hz7 hz8)), _, _, _, rfl, hk7, he7.mono hz8, hr8⟩
      · rename_i g
        (try with_reducible refine callM.toT ?_); refine callP (l8rx ⟨IntKind.i64.wrap (r.out - 1), (segPut r.join ⟨f.seg, f.len, f.data⟩).1, false⟩ _ z3 h4 (by show (segPut r.join ⟨f.seg, f.len, f.data⟩).1.got.length ≤ _; omega)) rfl rfl ?_; rintro v z4 hz4 ⟨A6, k6, rfl, h6⟩; (try simp only [seval, go_sem]); ((try simp only [seval, go_sem]); repeat ((first | with_reducible refine vsI.id ?_ | with_reducible refine vcI_cond ?_); (try simp only [seval, go_sem])))
        (refine FinV.frz 6 rfl rfl (fun b4 z5 hz5 hr5 => ?_)); dsimp only at hz5; simp only [seval, go_sem, Go.Proofs.YtpjaidjnamngaaaGreat.frz, subV, subC, subE, subL]
        (((try simp only [seval, go_sem]); repeat ((first | with_reducible refine vsI.id ?_ | with_reducible refine vcI_cond ?_); (try simp only [seval, go_sem]))); with_reducible refine FinV.of ?_; simp only [finE, finS, gt, look, SV.toV, SC.toV, allV, tupV, List.map_cons, List.map_nil, List.length_cons, List.length_nil, Nat.reduceAdd, Nat.reduceEqDiff, reduceCtorEq, if_true, if_false, reduceIte, Nat.succ_ne_self, true_and, List.getElem?_cons_zero, Nat.zero_add, Nat.add_zero])
        rw [crdHear_yes hdead hno (by simpa using g), if_neg (by simpa using hg), w1]
        exact ⟨_, _, rfl, h6.mono hz5, Sl.nil _ _ _⟩
end Go.Proofs.YtpjaidjnamngaaaGreat
