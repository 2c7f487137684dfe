/- Credits: what is ok, copies. · Credits, by the program. -/
import Derived.Test.YtpjaidjnamngaaaGreatM12
import Derived.Test.YtpjaidjnamngaaaGreatM11
namespace Go.Proofs.YtpjaidjnamngaaaGreat
set_option linter.unusedVariables false
set_option linter.unusedSimpArgs false
open Go.RowKit
set_option maxRecDepth 100000
set_option maxHeartbeats 1000000
theorem callT.toRow {P : Program} {f : FuncId} {args : List Operand} {d : Option Nat} {s : St} {K : St → Prop} (k j : Nat) {e sz m : Nat} {cs : List SC} {vs : List Value} (hk : look j s.L = some (.cells e cs)) (hv : allV cs = some vs) (hl : vs.length = m * sz) (hm : m ≤ 1000000000) (h : ∀ b, callT P f args d (rowSt s k j b e sz m vs) K) : callT P f args d s K := fun o h1 h2 => opT.toRow k j hk hv hl hm fun b => h b o h1 h2
theorem crxok_i (r : CRx) (A : Option Addr) (k : Nat) (z : Zc) (h : r.join.got.length ≤ 1000000000) (hj : -1000000000 ≤ r.join.len) : PSpec Tryz.prog 14 [vCRx r (.slice A r.join.got.length k)] z fun u z' => u = .bool (crxOk r) ∧ z = z' := by
  (refine pspec_enter Tryz.func14 ic14_ok fr14_ok Tryz.ntmps14 ?_; simp only [seval, go_sem, ic14, fr14])
  (try simp only [seval, go_sem]); repeat' (first | (with_reducible refine vsI.id ?_; (try simp only [seval, go_sem])) | (with_reducible refine vcI_cond ?_; (try simp only [seval, go_sem])) | (with_reducible refine guardR.split (fun hg => ?_) (fun hg => ?_) <;> (try simp only [hg]) <;> simp only [seval, go_sem]) | (with_reducible refine condI.split (fun hg => ?_) (fun hg => ?_) <;> (try simp only [hg]) <;> (try simp only [seval, go_sem])) | (with_reducible refine callM.toT ?_) | (refine callP (in_i _ _ _ _) rfl rfl ?_; rintro _ _ - ⟨rfl, rfl⟩; (try simp only [seval, go_sem])) | (refine callP (joinok_i r.join A k _ h hj) rfl rfl ?_; rintro _ _ - ⟨rfl, rfl⟩; (try simp only [seval, go_sem])))
  all_goals ((((try simp only [seval, go_sem]); repeat ((first | with_reducible refine vsI.id ?_ | with_reducible refine vcI_cond ?_); (try simp only [seval, go_sem]))); with_reducible refine FinV.of ?_; simp only [finE, finS, gt, look, SV.toV, SC.toV, allV, tupV, List.map_cons, List.map_nil, List.length_cons, List.length_nil, Nat.reduceAdd, Nat.reduceEqDiff, reduceCtorEq, if_true, if_false, reduceIte, Nat.succ_ne_self, true_and, List.getElem?_cons_zero, Nat.zero_add, Nat.add_zero]); (try simp only [inB_iff, inB_no, isNum_iff, beq_iff_eq, decide_eq_true_eq, decide_eq_false_iff_not, beq_eq_false_iff_ne, bne_iff_ne, bne_eq_false_iff_eq, Bool.not_eq_true', Bool.not_eq_false', and_true] at *); (try simp (disch := omega) only [wrap_in, Int.tmod_eq_emod_of_nonneg] at *); (try simp only [and_true]); first | rfl | (simp_all [crxOk]; done) | (refine congrArg Value.bool (Bool.eq_iff_iff.2 ?_); simp [*, crxOk, inB_iff]; done) | (refine congrArg Value.bool (Bool.eq_iff_iff.2 ?_); simp [*, crxOk, inB_iff]; omega) | (simp_all [crxOk]; omega))
theorem crxok_s (r : CRx) (A : Option Addr) (k : Nat) (z : Zc) (h : r.join.got.length ≤ 1000000000) (hj : -1000000000 ≤ r.join.len) : PSpec Tryz.prog 137 [vCRx r (.slice A r.join.got.length k)] z fun u z' => u = .bool (crxOk r) ∧ z = z' := by
  (refine pspec_enter Tryz.func137 ic137_ok fr137_ok Tryz.ntmps137 ?_; simp only [seval, go_sem, ic137, fr137])
  (try simp only [seval, go_sem]); repeat' (first | (with_reducible refine vsI.id ?_; (try simp only [seval, go_sem])) | (with_reducible refine vcI_cond ?_; (try simp only [seval, go_sem])) | (with_reducible refine guardR.split (fun hg => ?_) (fun hg => ?_) <;> (try simp only [hg]) <;> simp only [seval, go_sem]) | (with_reducible refine condI.split (fun hg => ?_) (fun hg => ?_) <;> (try simp only [hg]) <;> (try simp only [seval, go_sem])) | (with_reducible refine callM.toT ?_) | (refine callP (in_s _ _ _ _) rfl rfl ?_; rintro _ _ - ⟨rfl, rfl⟩; (try simp only [seval, go_sem])) | (refine callP (joinok_s r.join A k _ h hj) rfl rfl ?_; rintro _ _ - ⟨rfl, rfl⟩; (try simp only [seval, go_sem])))
  all_goals ((((try simp only [seval, go_sem]); repeat ((first | with_reducible refine vsI.id ?_ | with_reducible refine vcI_cond ?_); (try simp only [seval, go_sem]))); with_reducible refine FinV.of ?_; simp only [finE, finS, gt, look, SV.toV, SC.toV, allV, tupV, List.map_cons, List.map_nil, List.length_cons, List.length_nil, Nat.reduceAdd, Nat.reduceEqDiff, reduceCtorEq, if_true, if_false, reduceIte, Nat.succ_ne_self, true_and, List.getElem?_cons_zero, Nat.zero_add, Nat.add_zero]); (try simp only [inB_iff, inB_no, isNum_iff, beq_iff_eq, decide_eq_true_eq, decide_eq_false_iff_not, beq_eq_false_iff_ne, bne_iff_ne, bne_eq_false_iff_eq, Bool.not_eq_true', Bool.not_eq_false', and_true] at *); (try simp (disch := omega) only [wrap_in, Int.tmod_eq_emod_of_nonneg] at *); (try simp only [and_true]); first | rfl | (simp_all [crxOk]; done) | (refine congrArg Value.bool (Bool.eq_iff_iff.2 ?_); simp [*, crxOk, inB_iff]; done) | (refine congrArg Value.bool (Bool.eq_iff_iff.2 ?_); simp [*, crxOk, inB_iff]; omega) | (simp_all [crxOk]; omega))
theorem ctxok_i (c : Cfg) (t : CTx) (q : Value) (z : Zc) (h : Sl pRep z t.queue q) (hl : t.queue.length ≤ 1000000000) (hp : ∀ p ∈ t.queue, p.data.length ≤ 1000000000) : PSpec Tryz.prog 13 [vCfg c, vCTx t q] z fun u z' => u = .bool (ctxOk c t) := by
  obtain ⟨A, k, cs, rfl, hk, he, hr⟩ := h
  (refine pspec_enter Tryz.func13 ic13_ok fr13_ok Tryz.ntmps13 ?_; simp only [seval, go_sem, ic13, fr13])
  (try simp only [seval, go_sem]); repeat' (first | (with_reducible refine vsI.id ?_; (try simp only [seval, go_sem])) | (with_reducible refine vcI_cond ?_; (try simp only [seval, go_sem])) | (with_reducible refine guardR.split (fun hg => ?_) (fun hg => ?_) <;> (try simp only [hg]) <;> simp only [seval, go_sem]) | (with_reducible refine condI.split (fun hg => ?_) (fun hg => ?_) <;> (try simp only [hg]) <;> (try simp only [seval, go_sem])) | (with_reducible refine callM.toT ?_) | (refine callP (in_i _ _ _ _) rfl rfl ?_; rintro _ _ - ⟨rfl, rfl⟩; (try simp only [seval, go_sem])) | (refine callP (cfgok_i _ _) rfl rfl ?_; rintro _ _ - ⟨rfl, rfl⟩; (try simp only [seval, go_sem])))
  all_goals (try ((try with_reducible refine callM.toT ?_); refine callP (partsok_i c t.queue _ z ⟨A, k, cs, rfl, hk, he, hr⟩ hl hp) rfl rfl ?_; rintro u z1 hz1 rfl)); (try simp only [seval, go_sem]); ((try simp only [seval, go_sem]); repeat ((first | with_reducible refine vsI.id ?_ | with_reducible refine vcI_cond ?_); (try simp only [seval, go_sem])))
  all_goals ((((try simp only [seval, go_sem]); repeat ((first | with_reducible refine vsI.id ?_ | with_reducible refine vcI_cond ?_); (try simp only [seval, go_sem]))); with_reducible refine FinV.of ?_; simp only [finE, finS, gt, look, SV.toV, SC.toV, allV, tupV, List.map_cons, List.map_nil, List.length_cons, List.length_nil, Nat.reduceAdd, Nat.reduceEqDiff, reduceCtorEq, if_true, if_false, reduceIte, Nat.succ_ne_self, true_and, List.getElem?_cons_zero, Nat.zero_add, Nat.add_zero]); (try simp only [inB_iff, inB_no, isNum_iff, beq_iff_eq, decide_eq_true_eq, decide_eq_false_iff_not, beq_eq_false_iff_ne, bne_iff_ne, bne_eq_false_iff_eq, Bool.not_eq_true', Bool.not_eq_false', and_true] at *); (try simp (disch := omega) only [wrap_in, Int.tmod_eq_emod_of_nonneg] at *); (try simp only [and_true]); first | rfl | (simp_all [ctxOk]; done) | (refine congrArg Value.bool (Bool.eq_iff_iff.2 ?_); simp [*, ctxOk, inB_iff]; done) | (refine congrArg Value.bool (Bool.eq_iff_iff.2 ?_); simp [*, ctxOk, inB_iff]; omega) | (simp_all [ctxOk]; omega))
theorem ctxok_s (c : Cfg) (t : CTx) (q : Value) (z : Zc) (h : Sl pRep z t.queue q) (hl : t.queue.length ≤ 1000000000) (hp : ∀ p ∈ t.queue, p.data.length ≤ 1000000000) : PSpec Tryz.prog 133 [vCfg c, vCTx t q] z fun u z' => u = .bool (ctxOk c t) := by
  obtain ⟨A, k, cs, rfl, hk, he, hr⟩ := h
  (refine pspec_enter Tryz.func133 ic133_ok fr133_ok Tryz.ntmps133 ?_; simp only [seval, go_sem, ic133, fr133])
  (try simp only [seval, go_sem]); repeat' (first | (with_reducible refine vsI.id ?_; (try simp only [seval, go_sem])) | (with_reducible refine vcI_cond ?_; (try simp only [seval, go_sem])) | (with_reducible refine guardR.split (fun hg => ?_) (fun hg => ?_) <;> (try simp only [hg]) <;> simp only [seval, go_sem]) | (with_reducible refine condI.split (fun hg => ?_) (fun hg => ?_) <;> (try simp only [hg]) <;> (try simp only [seval, go_sem])) | (with_reducible refine callM.toT ?_) | (refine callP (in_s _ _ _ _) rfl rfl ?_; rintro _ _ - ⟨rfl, rfl⟩; (try simp only [seval, go_sem])) | (refine callP (cfgok_s _ _) rfl rfl ?_; rintro _ _ - ⟨rfl, rfl⟩; (try simp only [seval, go_sem])))
  all_goals (try ((try with_reducible refine callM.toT ?_); refine callP (l6parts_s t.queue _ c.mps z ⟨A, k, cs, rfl, hk, he, hr⟩ hl hp) rfl rfl ?_; rintro u z1 hz1 ⟨rfl, rfl⟩)); (try simp only [seval, go_sem]); ((try simp only [seval, go_sem]); repeat ((first | with_reducible refine vsI.id ?_ | with_reducible refine vcI_cond ?_); (try simp only [seval, go_sem])))
  all_goals ((((try simp only [seval, go_sem]); repeat ((first | with_reducible refine vsI.id ?_ | with_reducible refine vcI_cond ?_); (try simp only [seval, go_sem]))); with_reducible refine FinV.of ?_; simp only [finE, finS, gt, look, SV.toV, SC.toV, allV, tupV, List.map_cons, List.map_nil, List.length_cons, List.length_nil, Nat.reduceAdd, Nat.reduceEqDiff, reduceCtorEq, if_true, if_false, reduceIte, Nat.succ_ne_self, true_and, List.getElem?_cons_zero, Nat.zero_add, Nat.add_zero]); (try simp only [inB_iff, inB_no, isNum_iff, beq_iff_eq, decide_eq_true_eq, decide_eq_false_iff_not, beq_eq_false_iff_ne, bne_iff_ne, bne_eq_false_iff_eq, Bool.not_eq_true', Bool.not_eq_false', and_true] at *); (try simp (disch := omega) only [wrap_in, Int.tmod_eq_emod_of_nonneg] at *); (try simp only [and_true]); first | rfl | (simp_all [ctxOk, partsOk, mostB]; done) | (refine congrArg Value.bool (Bool.eq_iff_iff.2 ?_); simp [*, ctxOk, partsOk, mostB, inB_iff]; done) | (refine congrArg Value.bool (Bool.eq_iff_iff.2 ?_); simp [*, ctxOk, partsOk, mostB, inB_iff]; omega) | (simp_all [ctxOk, partsOk, mostB]; omega))
theorem ctxcopy_i (t : CTx) (q : Value) (z : Zc) (h : Sl pRep z t.queue q) (hl : t.queue.length ≤ 1000000) (hp : ∀ p ∈ t.queue, p.data.length ≤ 1000000000) : PSpec Tryz.prog 32 [vCTx t q] z fun u z' => ∃ A, u = vCTx t (.slice A t.queue.length t.queue.length) ∧ Sl pRep z' t.queue (.slice A t.queue.length t.queue.length) := by
  obtain ⟨A, k, cs, rfl, hk, he, hr⟩ := h
  (refine pspec_enter Tryz.func32 ic32_ok fr32_ok Tryz.ntmps32 ?_; simp only [seval, go_sem, ic32, fr32])
  ((try simp only [seval, go_sem]); repeat ((first | with_reducible refine vsI.id ?_ | with_reducible refine vcI_cond ?_); (try simp only [seval, go_sem])))
  (try with_reducible refine callM.toT ?_); refine callP (copyparts_i t.queue _ z ⟨A, k, cs, rfl, hk, he, hr⟩ hl hp) rfl rfl ?_; rintro u z1 hz1 ⟨A2, rfl, hs⟩; (try simp only [seval, go_sem]); ((try simp only [seval, go_sem]); repeat ((first | with_reducible refine vsI.id ?_ | with_reducible refine vcI_cond ?_); (try simp only [seval, go_sem])))
  (((try simp only [seval, go_sem]); repeat ((first | with_reducible refine vsI.id ?_ | with_reducible refine vcI_cond ?_); (try simp only [seval, go_sem]))); with_reducible refine FinV.of ?_; simp only [finE, finS, gt, look, SV.toV, SC.toV, allV, tupV, List.map_cons, List.map_nil, List.length_cons, List.length_nil, Nat.reduceAdd, Nat.reduceEqDiff, reduceCtorEq, if_true, if_false, reduceIte, Nat.succ_ne_self, true_and, List.getElem?_cons_zero, Nat.zero_add, Nat.add_zero])
  exact ⟨_, rfl, hs⟩
theorem crxcopy_i (r : CRx) (q : Value) (z : Zc) (h : By z r.join.got q) (hl : r.join.got.length ≤ 1000000000) : PSpec Tryz.prog 35 [vCRx r q] z fun u z' => ∃ A, u = vCRx r (.slice A r.join.got.length r.join.got.length) ∧ By z' r.join.got (.slice A r.join.got.length r.join.got.length) := by
  obtain ⟨A, k, rfl, hk, hB, hr⟩ := h.form
  (refine pspec_enter Tryz.func35 ic35_ok fr35_ok Tryz.ntmps35 ?_; simp only [seval, go_sem, ic35, fr35])
  ((try simp only [seval, go_sem]); repeat ((first | with_reducible refine vsI.id ?_ | with_reducible refine vcI_cond ?_); (try simp only [seval, go_sem])))
  (try with_reducible refine callM.toT ?_); refine callP (cloneBy r.join.got _ z h hl) rfl rfl ?_; rintro u z1 hz1 ⟨A2, rfl, _, hs⟩; (try simp only [seval, go_sem]); ((try simp only [seval, go_sem]); repeat ((first | with_reducible refine vsI.id ?_ | with_reducible refine vcI_cond ?_); (try simp only [seval, go_sem])))
  (((try simp only [seval, go_sem]); repeat ((first | with_reducible refine vsI.id ?_ | with_reducible refine vcI_cond ?_); (try simp only [seval, go_sem]))); with_reducible refine FinV.of ?_; simp only [finE, finS, gt, look, SV.toV, SC.toV, allV, tupV, List.map_cons, List.map_nil, List.length_cons, List.length_nil, Nat.reduceAdd, Nat.reduceEqDiff, reduceCtorEq, if_true, if_false, reduceIte, Nat.succ_ne_self, true_and, List.getElem?_cons_zero, Nat.zero_add, Nat.add_zero])
  exact ⟨_, rfl, By.mk (Nat.le_refl _) hB hs⟩
theorem l8tx (t : CTx) (q : Value) (z : Zc) (h : Sl pRep z t.queue q) (hl : t.queue.length ≤ 1000000) (hp : ∀ p ∈ t.queue, p.data.length ≤ 1000000000) : Spec Tryz.prog 93 [vCTx t q] z emp fun u z' A' => ∃ A c cs, u = vCTx t (.slice A t.queue.length c) ∧ A' = rowA 88 3 (.slice A t.queue.length c) t.queue.length cs ∧ t.queue.length ≤ c ∧ Els pRep z' t.queue cs := by
  obtain ⟨A, k, cs, rfl, hk, he, hr⟩ := h
  (refine spec_enter0 Tryz.func93 ic93_ok fr93_ok Tryz.ntmps93 ?_; simp only [seval, go_sem, ic93, fr93])
  ((try simp only [seval, go_sem]); repeat ((first | with_reducible refine vsI.id ?_ | with_reducible refine vcI_cond ?_); (try simp only [seval, go_sem])))
  (try with_reducible refine callM.toT ?_); refine callO 90 (l6list_s t.queue _ z ⟨A, k, cs, rfl, hk, he, hr⟩ hl hp) rfl rfl rfl ?_; rintro v z1 A' hz1 ⟨A2, c2, ds, rfl, rfl, hc2, hs⟩; (try simp only [seval, go_sem]); ((try simp only [seval, go_sem]); repeat ((first | with_reducible refine vsI.id ?_ | with_reducible refine vcI_cond ?_); (try simp only [seval, go_sem])))
  (((try simp only [seval, go_sem]); repeat ((first | with_reducible refine vsI.id ?_ | with_reducible refine vcI_cond ?_); (try simp only [seval, go_sem]))); refine FinV.own 90 rfl ?_; simp only [finE, finS, gt, look, SV.toV, SC.toV, allV, tupV, List.map_cons, List.map_nil, List.length_cons, List.length_nil, Nat.reduceAdd, Nat.reduceEqDiff, reduceCtorEq, if_true, if_false, reduceIte, Nat.succ_ne_self, true_and, List.getElem?_cons_zero, Nat.zero_add, Nat.add_zero])
  exact ⟨_, _, _, rfl, rfl, hc2, hs⟩
theorem l8rx (r : CRx) (q : Value) (z : Zc) (h : By z r.join.got q) (hl : r.join.got.length ≤ 1000000000) : PSpec Tryz.prog 94 [vCRx r q] z fun u z' => ∃ A c, u = vCRx r (.slice A r.join.got.length c) ∧ By z' r.join.got (.slice A r.join.got.length c) := by
  obtain ⟨A, k, rfl, hk, hB, hr⟩ := h.form
  (refine pspec_enter Tryz.func94 ic94_ok fr94_ok Tryz.ntmps94 ?_; simp only [seval, go_sem, ic94, fr94])
  ((try simp only [seval, go_sem]); repeat ((first | with_reducible refine vsI.id ?_ | with_reducible refine vcI_cond ?_); (try simp only [seval, go_sem])))
  (try with_reducible refine appM.toT ?_); (refine appM_empty 99 atyB rfl (by first | exact .inl ⟨_, rfl⟩ | exact .inr ⟨_, _, rfl⟩) rfl hr (by first | omega | (simp <;> omega)) (bc_one _) (by omega) (fun A2 c2 z2 hz2 hc2 hr2 => ?_)); dsimp only at hz2; simp only [seval, go_sem]; ((try simp only [seval, go_sem]); repeat ((first | with_reducible refine vsI.id ?_ | with_reducible refine vcI_cond ?_); (try simp only [seval, go_sem])))
  (((try simp only [seval, go_sem]); repeat ((first | with_reducible refine vsI.id ?_ | with_reducible refine vcI_cond ?_); (try simp only [seval, go_sem]))); with_reducible refine FinV.of ?_; simp only [finE, finS, gt, look, SV.toV, SC.toV, allV, tupV, List.map_cons, List.map_nil, List.length_cons, List.length_nil, Nat.reduceAdd, Nat.reduceEqDiff, reduceCtorEq, if_true, if_false, reduceIte, Nat.succ_ne_self, true_and, List.getElem?_cons_zero, Nat.zero_add, Nat.add_zero])
  exact ⟨_, _, rfl, By.mk hc2 hB hr2⟩
theorem puti (j : Join) (p : Part) (v u : Value) (z : Zc) (hv : By z j.got v) (hu : By z p.data u) (hl : j.got.length ≤ 100000) (hp : p.data.length ≤ 100000) (hj : 0 ≤ j.len) (hs : 0 ≤ p.seg ∧ p.seg ≤ 3) : PSpec Tryz.prog 70 [vJoin j v, vPart p u] z fun r z' => ∃ A k A2 k2, r = .tuple #[vJoin (segPut j p).1 (.slice A (segPut j p).1.got.length k), .slice A2 (segPut j p).2.1.length k2, .int .i64 (segPut j p).2.2] ∧ By z' (segPut j p).1.got (.slice A (segPut j p).1.got.length k) ∧ By z' (segPut j p).2.1 (.slice A2 (segPut j p).2.1.length k2) := by
  have h := put_i j p v u z hv hu hl hp
  refine PSpec.mono (by first | exact h | exact h hj hs) ?_
  rintro r z' hz ⟨v', w', rfl, h1, h2⟩
  obtain ⟨A, k, rfl, _⟩ := h1.form
  obtain ⟨A2, k2, rfl, _⟩ := h2.form
  exact ⟨A, k, A2, k2, rfl, h1, h2⟩
theorem puts (j : Join) (p : Part) (v u : Value) (z : Zc) (hv : By z j.got v) (hu : By z p.data u) (hl : j.got.length ≤ 100000) (hp : p.data.length ≤ 100000) (hj : 0 ≤ j.len) (hs : 0 ≤ p.seg ∧ p.seg ≤ 3) : PSpec Tryz.prog 151 [vJoin j v, vPart p u] z fun r z' => ∃ A k A2 k2, r = .tuple #[vJoin (segPut j p).1 (.slice A (segPut j p).1.got.length k), .slice A2 (segPut j p).2.1.length k2, .int .i64 (segPut j p).2.2] ∧ By z' (segPut j p).1.got (.slice A (segPut j p).1.got.length k) ∧ By z' (segPut j p).2.1 (.slice A2 (segPut j p).2.1.length k2) := by
  have h := put_s j p v u z hv hu hl hp
  refine PSpec.mono (by first | exact h | exact h hj hs) ?_
  rintro r z' hz ⟨v', w', rfl, h1, h2⟩
  obtain ⟨A, k, rfl, _⟩ := h1.form
  obtain ⟨A2, k2, rfl, _⟩ := h2.form
  exact ⟨A, k, A2, k2, rfl, h1, h2⟩
end Go.Proofs.YtpjaidjnamngaaaGreat
namespace Go.Proofs.YtpjaidjnamngaaaGreat
set_option linter.unusedVariables false
set_option linter.unusedSimpArgs false
open Go.RowKit
set_option maxRecDepth 100000
set_option maxHeartbeats 1000000
def crdPutG (c : Cfg) (t : CTx) (sdu : List Int) : CTx × Bool := if ctxOk c t = true then crdPut c t sdu else (ctx0, false)
def crdSendG (c : Cfg) (t : CTx) : CTx × Option Frm := if ctxOk c t = true then crdSend t else (ctx0, none)
def crdTakeG (c : Cfg) (t : CTx) (n : Int) : CTx := if ctxOk c t = true ∧ 1 ≤ n ∧ n ≤ 255 then crdTake t n else ctx0
def crdGrantG (r : CRx) : CRx × Option Frm := if crxOk r = true then crdGrant r else (crx0, none)
def crdHearG (c : Cfg) (r : CRx) (f : Frm) : CRx × List (List Int) := if cfgOk c = true ∧ crxOk r = true ∧ f.kind = 3 ∧ frmOk f = true then crdHear c r f else (crx0, [])
/-- What one may say, as a value. -/
def SayV (z : Zc) (o : Option Frm) (u w : Value) : Prop := ∃ x, u = vFrm (o.getD frm0) x ∧ By z (o.getD frm0).data x ∧ w = .bool o.isSome
theorem crdPutG_no {c : Cfg} {t : CTx} {sdu : List Int} (h : ctxOk c t = false) : crdPutG c t sdu = (ctx0, false) := by unfold crdPutG; rw [if_neg (by simp [h])]
theorem crdPutG_same {c : Cfg} {t : CTx} {sdu : List Int} (h : ctxOk c t = true) (k : t.dead = true ∨ (sdu.length : Int) > c.mtu ∨ t.queue.length + (segCut sdu c.mps).length > 24) : crdPutG c t sdu = (t, false) := by
  unfold crdPutG crdPut
  rw [if_pos h]
  split
  · rfl
  · rw [if_pos (by rename_i g; simp only [not_or] at g; rcases k with k | k | k; exact absurd k g.1; exact absurd k g.2; exact k)]
theorem crdPutG_yes {c : Cfg} {t : CTx} {sdu : List Int} (h : ctxOk c t = true) (h1 : t.dead = false) (h2 : (sdu.length : Int) ≤ c.mtu) (h3 : t.queue.length + (segCut sdu c.mps).length ≤ 24) : crdPutG c t sdu = ({ t with queue := t.queue ++ segCut sdu c.mps }, true) := by
  unfold crdPutG crdPut
  rw [if_pos h, if_neg (by simp [h1]; omega), if_neg (by omega)]
theorem CTxI.small {c : Cfg} {t : CTx} (h : CTxI c t) : ∀ p ∈ t.queue, p.data.length ≤ 8 := fun p hp => by have := (h.qu p hp).2; have := h.cfg.mps; omega
theorem crdput_i (c : Cfg) (t : CTx) (sdu : List Int) (q v : Value) (z : Zc) (h : Sl pRep z t.queue q) (hl : t.queue.length ≤ 1000000000) (hp : ∀ p ∈ t.queue, p.data.length ≤ 1000000000) (hv : By z sdu v) (hs : sdu.length ≤ 100000) :
    PSpec Tryz.prog 8 [vCfg c, vCTx t q, v] z fun u z' => ∃ q', u = .tuple #[vCTx (crdPutG c t sdu).1 q', .bool (crdPutG c t sdu).2] ∧ Sl pRep z' (crdPutG c t sdu).1.queue q' := by
  obtain ⟨A, k, cs, rfl, hk, he, hr⟩ := h
  obtain ⟨Av, kv, rfl, hkv, hBv, hrv⟩ := hv.form
  (refine pspec_enter Tryz.func8 ic8_ok fr8_ok Tryz.ntmps8 ?_; simp only [seval, go_sem, ic8, fr8])
  ((try simp only [seval, go_sem]); repeat ((first | with_reducible refine vsI.id ?_ | with_reducible refine vcI_cond ?_); (try simp only [seval, go_sem])))
  (try with_reducible refine callM.toT ?_); refine callP (ctxok_i c t _ z ⟨A, k, cs, rfl, hk, he, hr⟩ hl hp) rfl rfl ?_; rintro u z1 hz1 rfl; (try simp only [seval, go_sem]); ((try simp only [seval, go_sem]); repeat ((first | with_reducible refine vsI.id ?_ | with_reducible refine vcI_cond ?_); (try simp only [seval, go_sem])))
  (with_reducible refine condI.split (fun hg => ?_) (fun hg => ?_) <;> (try simp only [hg]) <;> (try simp only [seval, go_sem]))
  · (((try simp only [seval, go_sem]); repeat ((first | with_reducible refine vsI.id ?_ | with_reducible refine vcI_cond ?_); (try simp only [seval, go_sem]))); with_reducible refine FinV.of ?_; simp only [finE, finS, gt, look, SV.toV, SC.toV, allV, tupV, List.map_cons, List.map_nil, List.length_cons, List.length_nil, Nat.reduceAdd, Nat.reduceEqDiff, reduceCtorEq, if_true, if_false, reduceIte, Nat.succ_ne_self, true_and, List.getElem?_cons_zero, Nat.zero_add, Nat.add_zero])
    rw [crdPutG_no (by simpa using hg)]
    exact ⟨_, rfl, Sl.nil _ _ _⟩
  · have hok : ctxOk c t = true := by simpa using hg
    have hI := ctxOk_iff.1 hok
    have hq := hI.queue
    have hmps := hI.cfg.mps
    ((try simp only [seval, go_sem]); repeat ((first | with_reducible refine vsI.id ?_ | with_reducible refine vcI_cond ?_); (try simp only [seval, go_sem])))
    (try with_reducible refine callM.toT ?_); refine callP (ctxcopy_i t _ z1 (Sl.mono hz1 ⟨A, k, cs, rfl, hk, he, hr⟩) (by omega) hp) rfl rfl ?_; rintro u z2 hz2 ⟨A2, rfl, hs2⟩; (try simp only [seval, go_sem]); ((try simp only [seval, go_sem]); repeat ((first | with_reducible refine vsI.id ?_ | with_reducible refine vcI_cond ?_); (try simp only [seval, go_sem])))
    (with_reducible refine guardR.split (fun hg => ?_) (fun hg => ?_) <;> (try simp only [hg]) <;> simp only [seval, go_sem])
    · ((try simp only [seval, go_sem]); repeat ((first | with_reducible refine vsI.id ?_ | with_reducible refine vcI_cond ?_); (try simp only [seval, go_sem])))
      (((try simp only [seval, go_sem]); repeat ((first | with_reducible refine vsI.id ?_ | with_reducible refine vcI_cond ?_); (try simp only [seval, go_sem]))); with_reducible refine FinV.of ?_; simp only [finE, finS, gt, look, SV.toV, SC.toV, allV, tupV, List.map_cons, List.map_nil, List.length_cons, List.length_nil, Nat.reduceAdd, Nat.reduceEqDiff, reduceCtorEq, if_true, if_false, reduceIte, Nat.succ_ne_self, true_and, List.getElem?_cons_zero, Nat.zero_add, Nat.add_zero])
      rw [crdPutG_same hok (.inl hg)]
      exact ⟨_, by simp only [vCTx, hg], hs2⟩
    · have hdead : t.dead = false := hg
      ((try simp only [seval, go_sem]); repeat ((first | with_reducible refine vsI.id ?_ | with_reducible refine vcI_cond ?_); (try simp only [seval, go_sem])))
      (with_reducible refine condI.split (fun hg => ?_) (fun hg => ?_) <;> (try simp only [hg]) <;> (try simp only [seval, go_sem]))
      · (((try simp only [seval, go_sem]); repeat ((first | with_reducible refine vsI.id ?_ | with_reducible refine vcI_cond ?_); (try simp only [seval, go_sem]))); with_reducible refine FinV.of ?_; simp only [finE, finS, gt, look, SV.toV, SC.toV, allV, tupV, List.map_cons, List.map_nil, List.length_cons, List.length_nil, Nat.reduceAdd, Nat.reduceEqDiff, reduceCtorEq, if_true, if_false, reduceIte, Nat.succ_ne_self, true_and, List.getElem?_cons_zero, Nat.zero_add, Nat.add_zero])
        rw [crdPutG_same hok (.inr (.inl (by simpa using hg)))]
        exact ⟨_, by simp only [vCTx, hdead], hs2⟩
      · have hmtu : (sdu.length : Int) ≤ c.mtu := by simpa using hg
        ((try simp only [seval, go_sem]); repeat ((first | with_reducible refine vsI.id ?_ | with_reducible refine vcI_cond ?_); (try simp only [seval, go_sem])))
        (try with_reducible refine callM.toT ?_); refine callP (segCut_i sdu c.mps _ z2 (hv.mono (Zc.trans' hz1 hz2)) hs (by omega)) rfl rfl ?_; rintro u z3 hz3 hs3; (try simp only [seval, go_sem]); ((try simp only [seval, go_sem]); repeat ((first | with_reducible refine vsI.id ?_ | with_reducible refine vcI_cond ?_); (try simp only [seval, go_sem])))
        obtain ⟨A3, k3, cs3, rfl, hk3, he3, hr3⟩ := hs3
        have h24 := segCut_length sdu c.mps
        ((try simp only [seval, go_sem]); repeat ((first | with_reducible refine vsI.id ?_ | with_reducible refine vcI_cond ?_); (try simp only [seval, go_sem])))
        have w1 : IntKind.i64.wrap ((t.queue.length : Int) + ((segCut sdu c.mps).length : Int)) = ((t.queue.length + (segCut sdu c.mps).length : Nat) : Int) := by rw [wrap_in (by omega) (by omega)]; omega
        (with_reducible refine condI.split (fun hg => ?_) (fun hg => ?_) <;> (try simp only [hg]) <;> (try simp only [seval, go_sem]))
        · rw [w1] at hg
          (((try simp only [seval, go_sem]); repeat ((first | with_reducible refine vsI.id ?_ | with_reducible refine vcI_cond ?_); (try simp only [seval, go_sem]))); with_reducible refine FinV.of ?_; simp only [finE, finS, gt, look, SV.toV, SC.toV, allV, tupV, List.map_cons, List.map_nil, List.length_cons, List.length_nil, Nat.reduceAdd, Nat.reduceEqDiff, reduceCtorEq, if_true, if_false, reduceIte, Nat.succ_ne_self, true_and, List.getElem?_cons_zero, Nat.zero_add, Nat.add_zero])
          rw [crdPutG_same hok (.inr (.inr (by simp at hg; omega)))]
          exact ⟨_, by simp only [vCTx, hdead], hs2.mono hz3⟩
        · rw [w1] at hg
          ((try simp only [seval, go_sem]); repeat ((first | with_reducible refine vsI.id ?_ | with_reducible refine vcI_cond ?_); (try simp only [seval, go_sem])))
          obtain ⟨A4, k4, cs4, e4, hk4, he4, hr4⟩ := hs2.mono hz3
          injection e4 with e4 _ _
          subst e4
          have hl4 : cs4.length = t.queue.length * 3 := he4.length
          have hl3 : cs3.length = (segCut sdu c.mps).length * 3 := he3.length
          (try with_reducible refine appM.toT ?_); (refine appM_fullR 99 atyP rfl rfl (hr4) (by first | omega | (simp <;> omega)) rfl (hr3) (by first | omega | (simp <;> omega)) (he3.one) (by omega) (fun A5 c5 z5 hz5 hc5 hr5 => ?_)); dsimp only at hz5; simp only [seval, go_sem]; ((try simp only [seval, go_sem]); repeat ((first | with_reducible refine vsI.id ?_ | with_reducible refine vcI_cond ?_); (try simp only [seval, go_sem])))
          have he5 := (he4.append he3).mono hz5
          (try with_reducible refine callM.toT ?_); refine callP (cloneP A5 _ c5 _ z5 hr5 (by rw [List.length_append]; omega) he5.one (by omega)) rfl rfl ?_; rintro u z6 hz6 ⟨A6, rfl, hr6⟩; (try simp only [seval, go_sem]); ((try simp only [seval, go_sem]); repeat ((first | with_reducible refine vsI.id ?_ | with_reducible refine vcI_cond ?_); (try simp only [seval, go_sem])))
          (((try simp only [seval, go_sem]); repeat ((first | with_reducible refine vsI.id ?_ | with_reducible refine vcI_cond ?_); (try simp only [seval, go_sem]))); with_reducible refine FinV.of ?_; simp only [finE, finS, gt, look, SV.toV, SC.toV, allV, tupV, List.map_cons, List.map_nil, List.length_cons, List.length_nil, Nat.reduceAdd, Nat.reduceEqDiff, reduceCtorEq, if_true, if_false, reduceIte, Nat.succ_ne_self, true_and, List.getElem?_cons_zero, Nat.zero_add, Nat.add_zero])
          rw [crdPutG_yes hok hdead hmtu (by simp at hg; omega)]
          refine ⟨.slice A6 (t.queue.length + (segCut sdu c.mps).length) (t.queue.length + (segCut sdu c.mps).length), by simp only [vCTx, hdead], _, _, _, by rw [List.length_append], by rw [List.length_append]; exact Nat.le_refl _, he5.mono hz6, hr6⟩
theorem crdSendG_no {c : Cfg} {t : CTx} (h : ctxOk c t = false) : crdSendG c t = (ctx0, none) := by unfold crdSendG; rw [if_neg (by simp [h])]
theorem crdSendG_same {c : Cfg} {t : CTx} (h : ctxOk c t = true) (k : t.dead = true ∨ t.hav = 0 ∨ t.queue = [] ∨ t.sent = 9999) : crdSendG c t = (t, none) := by
  unfold crdSendG crdSend
  rw [if_pos h]
  split
  · rfl
  · rename_i p q hq
    rw [if_pos (by rcases k with k | k | k | k; exact .inl k; exact .inr (.inl k); rw [hq] at k; cases k; exact .inr (.inr k))]
theorem crdSendG_yes {c : Cfg} {t : CTx} {p : Part} {q : List Part} (h : ctxOk c t = true) (h1 : t.dead = false) (h2 : t.hav ≠ 0) (h3 : t.queue = p :: q) (h4 : t.sent ≠ 9999) : crdSendG c t = ({ t with queue := q, hav := t.hav - 1, sent := t.sent + 1 }, some ⟨3, 0, 0, false, false, 0, p.seg, p.len, p.data⟩) := by
  unfold crdSendG crdSend
  rw [if_pos h]
  simp only [h3]
  rw [if_neg (by simp [h1, h2, h4])]
theorem crdsend_i (c : Cfg) (t : CTx) (q : Value) (z : Zc) (h : Sl pRep z t.queue q) (hl : t.queue.length ≤ 1000000000) (hp : ∀ p ∈ t.queue, p.data.length ≤ 1000000000) :
    PSpec Tryz.prog 11 [vCfg c, vCTx t q] z fun u z' => ∃ q' f w, u = .tuple #[vCTx (crdSendG c t).1 q', f, w] ∧ Sl pRep z' (crdSendG c t).1.queue q' ∧ SayV z' (crdSendG c t).2 f w := by
  obtain ⟨A, k, cs, rfl, hk, he, hr⟩ := h
  (refine pspec_enter Tryz.func11 ic11_ok fr11_ok Tryz.ntmps11 ?_; simp only [seval, go_sem, ic11, fr11])
  ((try simp only [seval, go_sem]); repeat ((first | with_reducible refine vsI.id ?_ | with_reducible refine vcI_cond ?_); (try simp only [seval, go_sem])))
  (try with_reducible refine callM.toT ?_); refine callP (ctxok_i c t _ z ⟨A, k, cs, rfl, hk, he, hr⟩ hl hp) rfl rfl ?_; rintro u z1 hz1 rfl; (try simp only [seval, go_sem]); ((try simp only [seval, go_sem]); repeat ((first | with_reducible refine vsI.id ?_ | with_reducible refine vcI_cond ?_); (try simp only [seval, go_sem])))
  (with_reducible refine condI.split (fun hg => ?_) (fun hg => ?_) <;> (try simp only [hg]) <;> (try simp only [seval, go_sem]))
  · (((try simp only [seval, go_sem]); repeat ((first | with_reducible refine vsI.id ?_ | with_reducible refine vcI_cond ?_); (try simp only [seval, go_sem]))); with_reducible refine FinV.of ?_; simp only [finE, finS, gt, look, SV.toV, SC.toV, allV, tupV, List.map_cons, List.map_nil, List.length_cons, List.length_nil, Nat.reduceAdd, Nat.reduceEqDiff, reduceCtorEq, if_true, if_false, reduceIte, Nat.succ_ne_self, true_and, List.getElem?_cons_zero, Nat.zero_add, Nat.add_zero])
    rw [crdSendG_no (by simpa using hg)]
    exact ⟨_, _, _, rfl, Sl.nil _ _ _, _, rfl, Sl.nil _ _ _, rfl⟩
  · have hok : ctxOk c t = true := by simpa using hg
    have hI := ctxOk_iff.1 hok
    have hq := hI.queue
    ((try simp only [seval, go_sem]); repeat ((first | with_reducible refine vsI.id ?_ | with_reducible refine vcI_cond ?_); (try simp only [seval, go_sem])))
    (try with_reducible refine callM.toT ?_); refine callP (ctxcopy_i t _ z1 (Sl.mono hz1 ⟨A, k, cs, rfl, hk, he, hr⟩) (by omega) hp) rfl rfl ?_; rintro u z2 hz2 ⟨A2, rfl, hs2⟩; (try simp only [seval, go_sem]); ((try simp only [seval, go_sem]); repeat ((first | with_reducible refine vsI.id ?_ | with_reducible refine vcI_cond ?_); (try simp only [seval, go_sem])))
    (with_reducible refine guardR.split (fun hg => ?_) (fun hg => ?_) <;> (try simp only [hg]) <;> simp only [seval, go_sem])
    · ((try simp only [seval, go_sem]); repeat ((first | with_reducible refine vsI.id ?_ | with_reducible refine vcI_cond ?_); (try simp only [seval, go_sem])))
      (((try simp only [seval, go_sem]); repeat ((first | with_reducible refine vsI.id ?_ | with_reducible refine vcI_cond ?_); (try simp only [seval, go_sem]))); with_reducible refine FinV.of ?_; simp only [finE, finS, gt, look, SV.toV, SC.toV, allV, tupV, List.map_cons, List.map_nil, List.length_cons, List.length_nil, Nat.reduceAdd, Nat.reduceEqDiff, reduceCtorEq, if_true, if_false, reduceIte, Nat.succ_ne_self, true_and, List.getElem?_cons_zero, Nat.zero_add, Nat.add_zero])
      rw [crdSendG_same hok (.inl hg)]
      exact ⟨_, vFrm frm0 (.slice none 0 0), _, by simp only [vCTx, hg]; rfl, hs2, _, rfl, Sl.nil _ _ _, rfl⟩
    · have hdead : t.dead = false := hg
      ((try simp only [seval, go_sem]); repeat ((first | with_reducible refine vsI.id ?_ | with_reducible refine vcI_cond ?_); (try simp only [seval, go_sem])))
      (with_reducible refine guardR.split (fun hg => ?_) (fun hg => ?_) <;> (try simp only [hg]) <;> simp only [seval, go_sem])
      · ((try simp only [seval, go_sem]); repeat ((first | with_reducible refine vsI.id ?_ | with_reducible refine vcI_cond ?_); (try simp only [seval, go_sem])))
        (((try simp only [seval, go_sem]); repeat ((first | with_reducible refine vsI.id ?_ | with_reducible refine vcI_cond ?_); (try simp only [seval, go_sem]))); with_reducible refine FinV.of ?_; simp only [finE, finS, gt, look, SV.toV, SC.toV, allV, tupV, List.map_cons, List.map_nil, List.length_cons, List.length_nil, Nat.reduceAdd, Nat.reduceEqDiff, reduceCtorEq, if_true, if_false, reduceIte, Nat.succ_ne_self, true_and, List.getElem?_cons_zero, Nat.zero_add, Nat.add_zero])
        rw [crdSendG_same hok (.inr (.inl (by simpa using hg)))]
        exact ⟨_, vFrm frm0 (.slice none 0 0), _, by simp only [vCTx, hdead]; rfl, hs2, _, rfl, Sl.nil _ _ _, rfl⟩
      · have hhav : t.hav ≠ 0 := by simpa using hg
        ((try simp only [seval, go_sem]); repeat ((first | with_reducible refine vsI.id ?_ | with_reducible refine vcI_cond ?_); (try simp only [seval, go_sem])))
        (with_reducible refine guardR.split (fun hg => ?_) (fun hg => ?_) <;> (try simp only [hg]) <;> simp only [seval, go_sem])
        · ((try simp only [seval, go_sem]); repeat ((first | with_reducible refine vsI.id ?_ | with_reducible refine vcI_cond ?_); (try simp only [seval, go_sem])))
          (((try simp only [seval, go_sem]); repeat ((first | with_reducible refine vsI.id ?_ | with_reducible refine vcI_cond ?_); (try simp only [seval, go_sem]))); with_reducible refine FinV.of ?_; simp only [finE, finS, gt, look, SV.toV, SC.toV, allV, tupV, List.map_cons, List.map_nil, List.length_cons, List.length_nil, Nat.reduceAdd, Nat.reduceEqDiff, reduceCtorEq, if_true, if_false, reduceIte, Nat.succ_ne_self, true_and, List.getElem?_cons_zero, Nat.zero_add, Nat.add_zero])
          rw [crdSendG_same hok (.inr (.inr (.inl (List.eq_nil_of_length_eq_zero (by simp at hg; simp [hg])))))]
          exact ⟨_, vFrm frm0 (.slice none 0 0), _, by simp only [vCTx, hdead]; rfl, hs2, _, rfl, Sl.nil _ _ _, rfl⟩
        · have hqn : 0 < t.queue.length := by simp at hg; exact List.length_pos_iff.2 hg
          ((try simp only [seval, go_sem]); repeat ((first | with_reducible refine vsI.id ?_ | with_reducible refine vcI_cond ?_); (try simp only [seval, go_sem])))
          (with_reducible refine condI.split (fun hg => ?_) (fun hg => ?_) <;> (try simp only [hg]) <;> (try simp only [seval, go_sem]))
          · (((try simp only [seval, go_sem]); repeat ((first | with_reducible refine vsI.id ?_ | with_reducible refine vcI_cond ?_); (try simp only [seval, go_sem]))); with_reducible refine FinV.of ?_; simp only [finE, finS, gt, look, SV.toV, SC.toV, allV, tupV, List.map_cons, List.map_nil, List.length_cons, List.length_nil, Nat.reduceAdd, Nat.reduceEqDiff, reduceCtorEq, if_true, if_false, reduceIte, Nat.succ_ne_self, true_and, List.getElem?_cons_zero, Nat.zero_add, Nat.add_zero])
            rw [crdSendG_same hok (.inr (.inr (.inr (by simpa using hg))))]
            exact ⟨_, vFrm frm0 (.slice none 0 0), _, by simp only [vCTx, hdead]; rfl, hs2, _, rfl, Sl.nil _ _ _, rfl⟩
          · have hsent : t.sent ≠ 9999 := by simpa using hg
            ((try simp only [seval, go_sem]); repeat ((first | with_reducible refine vsI.id ?_ | with_reducible refine vcI_cond ?_); (try simp only [seval, go_sem])))
            obtain ⟨p, rest, hqe⟩ : ∃ p rest, t.queue = p :: rest := by
              cases hx : t.queue with
              | nil => rw [hx] at hqn; simp at hqn
              | cons p rest => exact ⟨p, rest, rfl⟩
            have hx : t.queue[0]? = some p := by rw [hqe]; rfl
            have hz12 := Zc.trans' hz1 hz2
            have hmem : p ∈ t.queue := by rw [hqe]; simp
            have hsm := hI.small p hmem
            obtain ⟨c1, ⟨v1, rfl, hb⟩, hr1⟩ := (he.mono hz12).at (hr.mono hz12) hx
            obtain ⟨Ab, kb, rfl, hkb, hBb, hrb⟩ := hb.form
            refine ⟨⟨by omega, he.isAt hr (by decide) hqn⟩, ?_⟩
            (refine ldF.agg _ rfl (by first | exact .inl hr1 | exact hr1) ?_; (try simp only [seval, go_sem]))
            ((try simp only [seval, go_sem]); repeat ((first | with_reducible refine vsI.id ?_ | with_reducible refine vcI_cond ?_); (try simp only [seval, go_sem])))
            refine ⟨by omega, ?_⟩; ((try simp only [seval, go_sem]); repeat ((first | with_reducible refine vsI.id ?_ | with_reducible refine vcI_cond ?_); (try simp only [seval, go_sem])))
            obtain ⟨A', k', cs', e', hk', he', hr'⟩ := hs2.drop (k := 1)
            injection e' with e1 e2 e3
            subst e1
            have hd1 : (t.queue.drop 1).length = t.queue.length - 1 := by simp
            (try with_reducible refine callM.toT ?_); refine callP (cloneP _ _ _ cs' z2 hr' (by rw [he'.length, hd1]; rfl) he'.one (by omega)) rfl rfl ?_; rintro u z3 hz3 ⟨A3, rfl, hr3⟩; (try simp only [seval, go_sem]); ((try simp only [seval, go_sem]); repeat ((first | with_reducible refine vsI.id ?_ | with_reducible refine vcI_cond ?_); (try simp only [seval, go_sem])))
            (try with_reducible refine callM.toT ?_); refine callP (cloneBy p.data _ z3 (hb.mono hz3) (by omega)) rfl rfl ?_; rintro u z4 hz4 ⟨A4, rfl, hB4, hr4⟩; (try simp only [seval, go_sem]); ((try simp only [seval, go_sem]); repeat ((first | with_reducible refine vsI.id ?_ | with_reducible refine vcI_cond ?_); (try simp only [seval, go_sem])))
            (((try simp only [seval, go_sem]); repeat ((first | with_reducible refine vsI.id ?_ | with_reducible refine vcI_cond ?_); (try simp only [seval, go_sem]))); with_reducible refine FinV.of ?_; simp only [finE, finS, gt, look, SV.toV, SC.toV, allV, tupV, List.map_cons, List.map_nil, List.length_cons, List.length_nil, Nat.reduceAdd, Nat.reduceEqDiff, reduceCtorEq, if_true, if_false, reduceIte, Nat.succ_ne_self, true_and, List.getElem?_cons_zero, Nat.zero_add, Nat.add_zero])
            have hq1 : t.queue.length - 1 = rest.length := by rw [hqe]; simp
            have hq2 : t.queue.drop 1 = rest := by rw [hqe]; rfl
            have hhv := hI.hav
            have hsn := hI.sent
            rw [crdSendG_yes hok hdead hhav hqe hsent, wrap_in (by omega) (by omega), wrap_in (by omega) (by omega), hq1]
            refine ⟨.slice A3 rest.length rest.length, vFrm ⟨3, 0, 0, false, false, 0, p.seg, p.len, p.data⟩ (.slice A4 p.data.length p.data.length), .bool true, by simp only [vCTx, hdead], ⟨_, _, cs', rfl, Nat.le_refl _, ?_, hr3.mono hz4⟩, _, rfl, By.mk (Nat.le_refl _) hB4 hr4, rfl⟩
            rw [← hq2]
            exact he'.mono (Zc.trans' hz3 hz4)
theorem crdTakeG_no {c : Cfg} {t : CTx} {n : Int} (h : ctxOk c t = false ∨ ¬ (1 ≤ n ∧ n ≤ 255)) : crdTakeG c t n = ctx0 := by unfold crdTakeG; rw [if_neg (by rintro ⟨g1, g2⟩; rcases h with h | h; rw [g1] at h; cases h; exact h g2)]
theorem crdTakeG_dead {c : Cfg} {t : CTx} {n : Int} (h : ctxOk c t = true) (hn : 1 ≤ n ∧ n ≤ 255) (h1 : t.dead = true) : crdTakeG c t n = t := by unfold crdTakeG crdTake; rw [if_pos ⟨h, hn⟩, if_pos h1]
theorem crdTakeG_end {c : Cfg} {t : CTx} {n : Int} (h : ctxOk c t = true) (hn : 1 ≤ n ∧ n ≤ 255) (h1 : t.dead = false) (h2 : t.hav + n > 255 ∨ t.granted + n > 9999) : crdTakeG c t n = { t with dead := true } := by unfold crdTakeG crdTake; rw [if_pos ⟨h, hn⟩, if_neg (by simp [h1]), if_pos h2]
theorem crdTakeG_yes {c : Cfg} {t : CTx} {n : Int} (h : ctxOk c t = true) (hn : 1 ≤ n ∧ n ≤ 255) (h1 : t.dead = false) (h2 : ¬ (t.hav + n > 255 ∨ t.granted + n > 9999)) : crdTakeG c t n = { t with hav := t.hav + n, granted := t.granted + n } := by unfold crdTakeG crdTake; rw [if_pos ⟨h, hn⟩, if_neg (by simp [h1]), if_neg h2]
theorem crdtake_i (c : Cfg) (t : CTx) (n : Int) (q : Value) (z : Zc) (h : Sl pRep z t.queue q) (hl : t.queue.length ≤ 1000000000) (hp : ∀ p ∈ t.queue, p.data.length ≤ 1000000000) :
    PSpec Tryz.prog 10 [vCfg c, vCTx t q, .int .i64 n] z fun u z' => ∃ q', u = vCTx (crdTakeG c t n) q' ∧ Sl pRep z' (crdTakeG c t n).queue q' := by
  obtain ⟨A, k, cs, rfl, hk, he, hr⟩ := h
  (refine pspec_enter Tryz.func10 ic10_ok fr10_ok Tryz.ntmps10 ?_; simp only [seval, go_sem, ic10, fr10])
  ((try simp only [seval, go_sem]); repeat ((first | with_reducible refine vsI.id ?_ | with_reducible refine vcI_cond ?_); (try simp only [seval, go_sem])))
  (try with_reducible refine callM.toT ?_); refine callP (ctxok_i c t _ z ⟨A, k, cs, rfl, hk, he, hr⟩ hl hp) rfl rfl ?_; rintro u z1 hz1 rfl; (try simp only [seval, go_sem]); ((try simp only [seval, go_sem]); repeat ((first | with_reducible refine vsI.id ?_ | with_reducible refine vcI_cond ?_); (try simp only [seval, go_sem])))
  (with_reducible refine guardR.split (fun hg => ?_) (fun hg => ?_) <;> (try simp only [hg]) <;> simp only [seval, go_sem])
  · ((try simp only [seval, go_sem]); repeat ((first | with_reducible refine vsI.id ?_ | with_reducible refine vcI_cond ?_); (try simp only [seval, go_sem])))
    (((try simp only [seval, go_sem]); repeat ((first | with_reducible refine vsI.id ?_ | with_reducible refine vcI_cond ?_); (try simp only [seval, go_sem]))); with_reducible refine FinV.of ?_; simp only [finE, finS, gt, look, SV.toV, SC.toV, allV, tupV, List.map_cons, List.map_nil, List.length_cons, List.length_nil, Nat.reduceAdd, Nat.reduceEqDiff, reduceCtorEq, if_true, if_false, reduceIte, Nat.succ_ne_self, true_and, List.getElem?_cons_zero, Nat.zero_add, Nat.add_zero])
    rw [crdTakeG_no (.inl (by simpa using hg))]
    exact ⟨_, rfl, Sl.nil _ _ _⟩
  · have hok : ctxOk c t = true := by simpa using hg
    have hI := ctxOk_iff.1 hok
    have hq := hI.queue
    ((try simp only [seval, go_sem]); repeat ((first | with_reducible refine vsI.id ?_ | with_reducible refine vcI_cond ?_); (try simp only [seval, go_sem])))
    (try with_reducible refine callM.toT ?_); refine callP (in_i n 1 255 z1) rfl rfl ?_; rintro _ _ - ⟨rfl, rfl⟩; (try simp only [seval, go_sem]); ((try simp only [seval, go_sem]); repeat ((first | with_reducible refine vsI.id ?_ | with_reducible refine vcI_cond ?_); (try simp only [seval, go_sem])))
    (with_reducible refine condI.split (fun hg => ?_) (fun hg => ?_) <;> (try simp only [hg]) <;> (try simp only [seval, go_sem]))
    · (((try simp only [seval, go_sem]); repeat ((first | with_reducible refine vsI.id ?_ | with_reducible refine vcI_cond ?_); (try simp only [seval, go_sem]))); with_reducible refine FinV.of ?_; simp only [finE, finS, gt, look, SV.toV, SC.toV, allV, tupV, List.map_cons, List.map_nil, List.length_cons, List.length_nil, Nat.reduceAdd, Nat.reduceEqDiff, reduceCtorEq, if_true, if_false, reduceIte, Nat.succ_ne_self, true_and, List.getElem?_cons_zero, Nat.zero_add, Nat.add_zero])
      rw [crdTakeG_no (.inr (by simpa [inB_no] using hg))]
      exact ⟨_, rfl, Sl.nil _ _ _⟩
    · have hn : 1 ≤ n ∧ n ≤ 255 := by simpa [inB_iff] using hg
      ((try simp only [seval, go_sem]); repeat ((first | with_reducible refine vsI.id ?_ | with_reducible refine vcI_cond ?_); (try simp only [seval, go_sem])))
      (try with_reducible refine callM.toT ?_); refine callP (ctxcopy_i t _ z1 (Sl.mono hz1 ⟨A, k, cs, rfl, hk, he, hr⟩) (by omega) hp) rfl rfl ?_; rintro u z2 hz2 ⟨A2, rfl, hs2⟩; (try simp only [seval, go_sem]); ((try simp only [seval, go_sem]); repeat ((first | with_reducible refine vsI.id ?_ | with_reducible refine vcI_cond ?_); (try simp only [seval, go_sem])))
      (with_reducible refine condI.split (fun hg => ?_) (fun hg => ?_) <;> (try simp only [hg]) <;> (try simp only [seval, go_sem]))
      · (((try simp only [seval, go_sem]); repeat ((first | with_reducible refine vsI.id ?_ | with_reducible refine vcI_cond ?_); (try simp only [seval, go_sem]))); with_reducible refine FinV.of ?_; simp only [finE, finS, gt, look, SV.toV, SC.toV, allV, tupV, List.map_cons, List.map_nil, List.length_cons, List.length_nil, Nat.reduceAdd, Nat.reduceEqDiff, reduceCtorEq, if_true, if_false, reduceIte, Nat.succ_ne_self, true_and, List.getElem?_cons_zero, Nat.zero_add, Nat.add_zero])
        rw [crdTakeG_dead hok hn hg]
        exact ⟨_, by simp only [vCTx, hg], hs2⟩
      · have hdead : t.dead = false := hg
        have hhv := hI.hav
        have hgr := hI.granted
        have w1 : IntKind.i64.wrap (t.hav + n) = t.hav + n := wrap_in (by omega) (by omega)
        have w2 : IntKind.i64.wrap (t.granted + n) = t.granted + n := wrap_in (by omega) (by omega)
        (try simp only [seval, go_sem]); repeat' (first | (with_reducible refine vsI.id ?_; (try simp only [seval, go_sem])) | (with_reducible refine vcI_cond ?_; (try simp only [seval, go_sem])) | (with_reducible refine guardR.split (fun hg => ?_) (fun hg => ?_) <;> (try simp only [hg]) <;> simp only [seval, go_sem]) | (with_reducible refine condI.split (fun hg => ?_) (fun hg => ?_) <;> (try simp only [hg]) <;> (try simp only [seval, go_sem])) | (with_reducible refine callM.toT ?_))
        all_goals (try simp only [w1, w2] at hg)
        all_goals (((try simp only [seval, go_sem]); repeat ((first | with_reducible refine vsI.id ?_ | with_reducible refine vcI_cond ?_); (try simp only [seval, go_sem]))); with_reducible refine FinV.of ?_; simp only [finE, finS, gt, look, SV.toV, SC.toV, allV, tupV, List.map_cons, List.map_nil, List.length_cons, List.length_nil, Nat.reduceAdd, Nat.reduceEqDiff, reduceCtorEq, if_true, if_false, reduceIte, Nat.succ_ne_self, true_and, List.getElem?_cons_zero, Nat.zero_add, Nat.add_zero])
        all_goals simp only [w1, w2, decide_eq_true_eq, decide_eq_false_iff_not] at *
        · rw [crdTakeG_end hok hn hdead (.inl (by assumption))]
          exact ⟨_, rfl, hs2⟩
        · rw [crdTakeG_end hok hn hdead (.inr (by assumption))]
          exact ⟨_, rfl, hs2⟩
        · rw [crdTakeG_yes hok hn hdead (by omega)]
          exact ⟨_, by simp only [vCTx, hdead], hs2⟩
theorem crdGrantG_no {r : CRx} (h : crxOk r = false) : crdGrantG r = (crx0, none) := by unfold crdGrantG; rw [if_neg (by simp [h])]
theorem crdGrantG_same {r : CRx} (h : crxOk r = true) (k : r.dead = true ∨ r.out ≥ 6) : crdGrantG r = (r, none) := by unfold crdGrantG crdGrant; rw [if_pos h, if_pos k]
theorem crdGrantG_yes {r : CRx} (h : crxOk r = true) (k1 : r.dead = false) (k : ¬ r.out ≥ 6) : crdGrantG r = ({ r with out := 6 }, some ⟨4, 0, 0, false, false, 0, 0, 6 - r.out, []⟩) := by unfold crdGrantG crdGrant; rw [if_pos h, if_neg (by simp [k1]; omega)]
theorem crdgrant_i (r : CRx) (q : Value) (z : Zc) (h : By z r.join.got q) (hl : r.join.got.length ≤ 1000000000) (hj : -1000000000 ≤ r.join.len) :
    PSpec Tryz.prog 9 [vCRx r q] z fun u z' => ∃ q' f w, u = .tuple #[vCRx (crdGrantG r).1 q', f, w] ∧ By z' (crdGrantG r).1.join.got q' ∧ SayV z' (crdGrantG r).2 f w := by
  obtain ⟨A, k, rfl, hk, hB, hr⟩ := h.form
  (refine pspec_enter Tryz.func9 ic9_ok fr9_ok Tryz.ntmps9 ?_; simp only [seval, go_sem, ic9, fr9])
  ((try simp only [seval, go_sem]); repeat ((first | with_reducible refine vsI.id ?_ | with_reducible refine vcI_cond ?_); (try simp only [seval, go_sem])))
  (try with_reducible refine callM.toT ?_); refine callP (crxok_i r A k z hl hj) rfl rfl ?_; rintro _ _ - ⟨rfl, rfl⟩; (try simp only [seval, go_sem]); ((try simp only [seval, go_sem]); repeat ((first | with_reducible refine vsI.id ?_ | with_reducible refine vcI_cond ?_); (try simp only [seval, go_sem])))
  (with_reducible refine condI.split (fun hg => ?_) (fun hg => ?_) <;> (try simp only [hg]) <;> (try simp only [seval, go_sem]))
  · (((try simp only [seval, go_sem]); repeat ((first | with_reducible refine vsI.id ?_ | with_reducible refine vcI_cond ?_); (try simp only [seval, go_sem]))); with_reducible refine FinV.of ?_; simp only [finE, finS, gt, look, SV.toV, SC.toV, allV, tupV, List.map_cons, List.map_nil, List.length_cons, List.length_nil, Nat.reduceAdd, Nat.reduceEqDiff, reduceCtorEq, if_true, if_false, reduceIte, Nat.succ_ne_self, true_and, List.getElem?_cons_zero, Nat.zero_add, Nat.add_zero])
    rw [crdGrantG_no (by simpa using hg)]
    exact ⟨_, vFrm frm0 (.slice none 0 0), _, rfl, Sl.nil _ _ _, _, rfl, Sl.nil _ _ _, rfl⟩
  · have hok : crxOk r = true := by simpa using hg
    have hI := crxOk_iff.1 hok
    ((try simp only [seval, go_sem]); repeat ((first | with_reducible refine vsI.id ?_ | with_reducible refine vcI_cond ?_); (try simp only [seval, go_sem])))
    (try with_reducible refine callM.toT ?_); refine callP (crxcopy_i r _ z h hl) rfl rfl ?_; rintro u z2 hz2 ⟨A2, rfl, hs2⟩; (try simp only [seval, go_sem]); ((try simp only [seval, go_sem]); repeat ((first | with_reducible refine vsI.id ?_ | with_reducible refine vcI_cond ?_); (try simp only [seval, go_sem])))
    (with_reducible refine guardR.split (fun hg => ?_) (fun hg => ?_) <;> (try simp only [hg]) <;> simp only [seval, go_sem])
    · ((try simp only [seval, go_sem]); repeat ((first | with_reducible refine vsI.id ?_ | with_reducible refine vcI_cond ?_); (try simp only [seval, go_sem])))
      (((try simp only [seval, go_sem]); repeat ((first | with_reducible refine vsI.id ?_ | with_reducible refine vcI_cond ?_); (try simp only [seval, go_sem]))); with_reducible refine FinV.of ?_; simp only [finE, finS, gt, look, SV.toV, SC.toV, allV, tupV, List.map_cons, List.map_nil, List.length_cons, List.length_nil, Nat.reduceAdd, Nat.reduceEqDiff, reduceCtorEq, if_true, if_false, reduceIte, Nat.succ_ne_self, true_and, List.getElem?_cons_zero, Nat.zero_add, Nat.add_zero])
      rw [crdGrantG_same hok (.inl hg)]
      exact ⟨_, vFrm frm0 (.slice none 0 0), _, by simp only [vCRx, hg]; rfl, hs2, _, rfl, Sl.nil _ _ _, rfl⟩
    · have hdead : r.dead = false := hg
      ((try simp only [seval, go_sem]); repeat ((first | with_reducible refine vsI.id ?_ | with_reducible refine vcI_cond ?_); (try simp only [seval, go_sem])))
      (with_reducible refine condI.split (fun hg => ?_) (fun hg => ?_) <;> (try simp only [hg]) <;> (try simp only [seval, go_sem]))
      · (((try simp only [seval, go_sem]); repeat ((first | with_reducible refine vsI.id ?_ | with_reducible refine vcI_cond ?_); (try simp only [seval, go_sem]))); with_reducible refine FinV.of ?_; simp only [finE, finS, gt, look, SV.toV, SC.toV, allV, tupV, List.map_cons, List.map_nil, List.length_cons, List.length_nil, Nat.reduceAdd, Nat.reduceEqDiff, reduceCtorEq, if_true, if_false, reduceIte, Nat.succ_ne_self, true_and, List.getElem?_cons_zero, Nat.zero_add, Nat.add_zero])
        rw [crdGrantG_same hok (.inr (by simpa using hg))]
        exact ⟨_, vFrm frm0 (.slice none 0 0), _, by simp only [vCRx, hdead]; rfl, hs2, _, rfl, Sl.nil _ _ _, rfl⟩
      · ((try simp only [seval, go_sem]); repeat ((first | with_reducible refine vsI.id ?_ | with_reducible refine vcI_cond ?_); (try simp only [seval, go_sem])))
        (((try simp only [seval, go_sem]); repeat ((first | with_reducible refine vsI.id ?_ | with_reducible refine vcI_cond ?_); (try simp only [seval, go_sem]))); with_reducible refine FinV.of ?_; simp only [finE, finS, gt, look, SV.toV, SC.toV, allV, tupV, List.map_cons, List.map_nil, List.length_cons, List.length_nil, Nat.reduceAdd, Nat.reduceEqDiff, reduceCtorEq, if_true, if_false, reduceIte, Nat.succ_ne_self, true_and, List.getElem?_cons_zero, Nat.zero_add, Nat.add_zero])
        have := hI.1
        rw [crdGrantG_yes hok hdead (by simpa using hg), wrap_in (by omega) (by omega)]
        exact ⟨_, vFrm ⟨4, 0, 0, false, false, 0, 0, 6 - r.out, []⟩ (.slice none 0 0), .bool true, by simp only [vCRx, hdead], hs2, _, rfl, Sl.nil _ _ _, rfl⟩
end Go.Proofs.YtpjaidjnamngaaaGreat
