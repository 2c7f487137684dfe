/- Codes of functions, group Tx. · Who sends, by the reference. · Who hears, by the reference. · Who hears a frame, or is busy, by the reference. · Frames' bytes, one's own; sends. · Who sends, sends a piece, by the reference. -/
import Derived.Test.YtpjaidjnamngaaaGreatM3
import Derived.Test.YtpjaidjnamngaaaGreatProg
import Derived.Test.YtpjaidjnamngaaaGreatM14
namespace Go.Proofs.YtpjaidjnamngaaaGreat
set_option linter.unusedVariables false
set_option linter.unusedSimpArgs false
set_option maxRecDepth 100000
set_option maxHeartbeats 4000000
open Go.RowKit
/-- spec.l6Copy -/
def ic91 : IC := (.seq (.reg [] (.op .t (.box 55 (.tmp 0)) (some 1) none (.op .t (.alc 55 [(.int .i64 0), (.int .i64 0), (.slice none 0 0), (.int .i64 0), (.slice none 0 0), (.bool false), (.int .i64 0), (.bool false), (.int .i64 0), (.bool false)]) (some 2) none .done))) (.seq (.reg [] (.op .t (.ld (.tmp 1) 10 true) (some 4) none (.op .t (.alc 55 [(.int .i64 0), (.int .i64 0), (.slice none 0 0), (.int .i64 0), (.slice none 0 0), (.bool false), (.int .i64 0), (.bool false), (.int .i64 0), (.bool false)]) (some 3) none (.op .t (.sto (.tmp 3) (.tmp 4) 10) none none .done)))) (.seq (.reg [] (.op .t (.fad (.tmp 1) 2) (some 5) none (.op .t (.ld (.tmp 5) 1 false) (some 6) none (.op .t (.call 122 [.tmp 6]) (some 7) none (.op .t (.fad (.tmp 3) 2) (some 8) none (.op .t (.sto (.tmp 8) (.tmp 7) 1) none none .done)))))) (.seq (.reg [] (.op .t (.fad (.tmp 1) 4) (some 9) none (.op .t (.ld (.tmp 9) 1 false) (some 10) none (.op .t (.call 122 [.tmp 10]) (some 11) none (.op .t (.fad (.tmp 3) 4) (some 12) none (.op .t (.sto (.tmp 12) (.tmp 11) 1) none none .done)))))) (.seq (.reg [] (.op .t (.ld (.tmp 3) 10 true) (some 13) none (.op .t (.sto (.tmp 2) (.tmp 13) 10) none none .done))) .ret)))))
theorem ic91_ok : Tryz.f91.body.bind (trC Tryz.prog []) = some ic91 := by kernel_rfl
def fr91 : List FR := [(FR.c 2 10 true)]
theorem fr91_ok : fres Tryz.prog Tryz.f91.results.toList = some fr91 := by kernel_rfl
/-- spec.l7Copy -/
def ic92 : IC := (.seq (.reg [] (.op .t (.box 57 (.tmp 0)) (some 1) none (.op .t (.alc 57 [(.int .i64 0), (.int .i64 0), (.int .i64 0), (.slice none 0 0), (.bool false), (.bool false), (.bool false)]) (some 2) none .done))) (.seq (.reg [] (.op .t (.ld (.tmp 1) 7 true) (some 4) none (.op .t (.alc 57 [(.int .i64 0), (.int .i64 0), (.int .i64 0), (.slice none 0 0), (.bool false), (.bool false), (.bool false)]) (some 3) none (.op .t (.sto (.tmp 3) (.tmp 4) 7) none none .done)))) (.seq (.reg [] (.op .t (.bsl 5 1 0 [(.int .u8 0)] []) (some 5) none (.op .t (.fad (.tmp 1) 2) (some 6) none (.op .t (.fad (.tmp 6) 1) (some 7) none (.op .t (.ld (.tmp 7) 1 false) (some 8) none (.op .t (.app 22 (.tmp 5) (.tmp 8)) (some 9) none (.op .t (.fad (.tmp 3) 2) (some 10) none (.op .t (.fad (.tmp 10) 1) (some 11) none (.op .t (.sto (.tmp 11) (.tmp 9) 1) none none .done))))))))) (.seq (.reg [] (.op .t (.ld (.tmp 3) 7 true) (some 12) none (.op .t (.sto (.tmp 2) (.tmp 12) 7) none none .done))) .ret))))
theorem ic92_ok : Tryz.f92.body.bind (trC Tryz.prog []) = some ic92 := by kernel_rfl
def fr92 : List FR := [(FR.c 2 7 true)]
theorem fr92_ok : fres Tryz.prog Tryz.f92.results.toList = some fr92 := by kernel_rfl
end Go.Proofs.YtpjaidjnamngaaaGreat
namespace Go.Proofs.YtpjaidjnamngaaaGreat
set_option linter.unusedVariables false
set_option linter.unusedSimpArgs false
open Go.RowKit
set_option maxRecDepth 100000
set_option maxHeartbeats 1000000
abbrev tyP : Nat := 88
theorem l6copy (t : Tx) (q1 q2 : Value) (z : Zc) (h1 : Sl pRep z t.flight q1) (h2 : Sl pRep z t.queue q2) (hl1 : t.flight.length ≤ 1000000) (hl2 : t.queue.length ≤ 1000000) (hp1 : ∀ p ∈ t.flight, p.data.length ≤ 1000000000) (hp2 : ∀ p ∈ t.queue, p.data.length ≤ 1000000000) :
    Spec Tryz.prog 91 [vTx t q1 q2] z emp fun u z' A' => ∃ A c B d cs ds, u = vTx t (.slice A t.flight.length c) (.slice B t.queue.length d) ∧ A' = starL [rowA tyP 3 (.slice A t.flight.length c) t.flight.length cs, rowA tyP 3 (.slice B t.queue.length d) t.queue.length ds] ∧ t.flight.length ≤ c ∧ t.queue.length ≤ d ∧ Els pRep z' t.flight cs ∧ Els pRep z' t.queue ds := by
  obtain ⟨A, k, cs, rfl, hk, he, hr⟩ := h1
  obtain ⟨A2, k2, cs2, rfl, hk2, he2, hr2⟩ := h2
  (refine spec_enter0 Tryz.func91 ic91_ok fr91_ok Tryz.ntmps91 ?_; simp only [seval, go_sem, ic91, fr91])
  ((try simp only [seval, go_sem]); repeat ((first | with_reducible refine vsI.id ?_ | with_reducible refine vcI_cond ?_); (try simp only [seval, go_sem])))
  (try with_reducible refine callM.toT ?_); refine callO 90 (l6list_s t.flight _ z ⟨A, k, cs, rfl, hk, he, hr⟩ hl1 hp1) rfl rfl rfl ?_; rintro u z1 A' hz1 ⟨A3, k3, cs3, rfl, rfl, hk3, he3⟩; (try simp only [seval, go_sem]); ((try simp only [seval, go_sem]); repeat ((first | with_reducible refine vsI.id ?_ | with_reducible refine vcI_cond ?_); (try simp only [seval, go_sem])))
  (try with_reducible refine callM.toT ?_); refine callO 91 (l6list_s t.queue _ z1 (Sl.mono hz1 ⟨A2, k2, cs2, rfl, hk2, he2, hr2⟩) hl2 hp2) rfl rfl rfl ?_; rintro u z2 A' hz2 ⟨A4, k4, cs4, rfl, rfl, hk4, he4⟩; (try simp only [seval, go_sem]); ((try simp only [seval, go_sem]); repeat ((first | with_reducible refine vsI.id ?_ | with_reducible refine vcI_cond ?_); (try simp only [seval, go_sem])))
  (refine FinV.tf (Tf.pack 92 [90, 91] (by simp only [popL, look, del, Nat.reduceEqDiff, reduceCtorEq, if_true, if_false, reduceIte, Nat.succ_ne_self]; exact rfl) (by simp only [look, Nat.reduceEqDiff, reduceCtorEq, if_true, if_false, reduceIte])) ?_); dsimp only
  (((try simp only [seval, go_sem]); repeat ((first | with_reducible refine vsI.id ?_ | with_reducible refine vcI_cond ?_); (try simp only [seval, go_sem]))); refine FinV.own 92 rfl ?_; simp only [finE, finS, gt, look, SV.toV, SC.toV, allV, tupV, List.map_cons, List.map_nil, List.length_cons, List.length_nil, Nat.reduceAdd, Nat.reduceEqDiff, reduceCtorEq, if_true, if_false, reduceIte, Nat.succ_ne_self, true_and, List.getElem?_cons_zero, Nat.zero_add, Nat.add_zero])
  exact ⟨_, _, _, _, _, _, rfl, rfl, hk3, hk4, he3.mono hz2, he4⟩
end Go.Proofs.YtpjaidjnamngaaaGreat
namespace Go.Proofs.YtpjaidjnamngaaaGreat
set_option linter.unusedVariables false
set_option linter.unusedSimpArgs false
open Go.RowKit
set_option maxRecDepth 100000
set_option maxHeartbeats 1000000
theorem l7copy (r : Rx) (q : Value) (z : Zc) (h : By z r.join.got q) (hl : r.join.got.length ≤ 1000000000) : PSpec Tryz.prog 92 [vRx r q] z fun u z' => ∃ A c, u = vRx r (.slice A r.join.got.length c) ∧ By z' r.join.got (.slice A r.join.got.length c) := by
  obtain ⟨A, k, rfl, hk, hB, hr⟩ := h.form
  (refine pspec_enter Tryz.func92 ic92_ok fr92_ok Tryz.ntmps92 ?_; simp only [seval, go_sem, ic92, fr92])
  ((try simp only [seval, go_sem]); repeat ((first | with_reducible refine vsI.id ?_ | with_reducible refine vcI_cond ?_); (try simp only [seval, go_sem])))
  (try with_reducible refine appM.toT ?_); (refine appM_empty 99 atyB rfl (by first | exact .inl ⟨_, rfl⟩ | exact .inr ⟨_, _, rfl⟩) rfl hr (by first | omega | (simp <;> omega)) (bc_one _) (by omega) (fun A2 c2 z2 hz2 hc2 hr2 => ?_)); dsimp only at hz2; simp only [seval, go_sem]; ((try simp only [seval, go_sem]); repeat ((first | with_reducible refine vsI.id ?_ | with_reducible refine vcI_cond ?_); (try simp only [seval, go_sem])))
  (((try simp only [seval, go_sem]); repeat ((first | with_reducible refine vsI.id ?_ | with_reducible refine vcI_cond ?_); (try simp only [seval, go_sem]))); with_reducible refine FinV.of ?_; simp only [finE, finS, gt, look, SV.toV, SC.toV, allV, tupV, List.map_cons, List.map_nil, List.length_cons, List.length_nil, Nat.reduceAdd, Nat.reduceEqDiff, reduceCtorEq, if_true, if_false, reduceIte, Nat.succ_ne_self, true_and, List.getElem?_cons_zero, Nat.zero_add, Nat.add_zero])
  exact ⟨_, _, rfl, By.mk hc2 hB hr2⟩
end Go.Proofs.YtpjaidjnamngaaaGreat
namespace Go.Proofs.YtpjaidjnamngaaaGreat
set_option linter.unusedVariables false
set_option linter.unusedSimpArgs false
open Go.RowKit
set_option maxRecDepth 100000
set_option maxHeartbeats 1000000
end Go.Proofs.YtpjaidjnamngaaaGreat
namespace Go.Proofs.YtpjaidjnamngaaaGreat
set_option linter.unusedVariables false
set_option linter.unusedSimpArgs false
open Go.RowKit
set_option maxRecDepth 100000
set_option maxHeartbeats 1000000
abbrev tyB : Nat := 5
/-- Bytes on their way, that may be turned. -/
def bysA (l : List Int) (A : Option Addr) (c : Nat) : Asrt := if l = [] then emp else rowA tyB 1 (.slice A l.length c) l.length (bc l)
theorem crcPutO (l : List Int) (v : Value) (z : Zc) (h : By z l v) (hl : l.length ≤ 100000000) : Spec Tryz.prog 107 [v] z emp fun v z' A' => ∃ A c, v = .slice A (crcPut l).length c ∧ A' = rowA tyB 1 (.slice A (crcPut l).length c) (crcPut l).length (bc (crcPut l)) ∧ (crcPut l).length ≤ c := by
  obtain ⟨A, c, rfl, hc, hB, hr⟩ := h.form
  have hlt := crcOf_lt hB
  (refine spec_enter0 Tryz.func107 ic107_ok fr107_ok Tryz.ntmps107 ?_; simp only [seval, go_sem, ic107, fr107])
  ((try simp only [seval, go_sem]); repeat ((first | with_reducible refine vsI.id ?_ | with_reducible refine vcI_cond ?_); (try simp only [seval, go_sem])))
  (try with_reducible refine callM.toT ?_); refine callP (crcOf_s l _ z h (by omega)) rfl rfl ?_; rintro _ _ - ⟨rfl, rfl⟩; (try simp only [seval, go_sem]); ((try simp only [seval, go_sem]); repeat ((first | with_reducible refine vsI.id ?_ | with_reducible refine vcI_cond ?_); (try simp only [seval, go_sem])))
  (refine appT.toRow 90 0 (m := 0) (sz := 1) rfl rfl rfl (by omega) (fun b => ?_)); simp only [seval, go_sem, rowSt, subV, subC, subE, subL]
  (try with_reducible refine appM.toT ?_); (refine appM_row 90 atyB rfl rfl rfl rfl hr (by first | omega | simp) (by simp [Value.oneCell']) (by omega) (fun v1 => ?_)); simp only [seval, go_sem]; ((try simp only [seval, go_sem]); repeat ((first | with_reducible refine vsI.id ?_ | with_reducible refine vcI_cond ?_); (try simp only [seval, go_sem])))
  (try with_reducible refine appM.toT ?_); (refine appM_newF 90 atyB rfl rfl rfl rfl rfl rfl rfl (by simp [Value.oneCell']) (by omega) (fun A2 c2 hc2 hat => ?_)); simp only [seval, go_sem]; ((try simp only [seval, go_sem]); repeat ((first | with_reducible refine vsI.id ?_ | with_reducible refine vcI_cond ?_); (try simp only [seval, go_sem])))
  simp only [crcPut_bs l hlt]
  (((try simp only [seval, go_sem]); repeat ((first | with_reducible refine vsI.id ?_ | with_reducible refine vcI_cond ?_); (try simp only [seval, go_sem]))); refine FinV.own 90 rfl ?_; simp only [finE, finS, gt, look, SV.toV, SC.toV, allV, tupV, List.map_cons, List.map_nil, List.length_cons, List.length_nil, Nat.reduceAdd, Nat.reduceEqDiff, reduceCtorEq, if_true, if_false, reduceIte, Nat.succ_ne_self, true_and, List.getElem?_cons_zero, Nat.zero_add, Nat.add_zero])
  rw [crcPut_length]
  exact ⟨_, _, rfl, rfl, hc2⟩
theorem frmBytesO (f : Frm) (v : Value) (z : Zc) (h : By z f.data v) (hl : f.data.length ≤ 100000) : Spec Tryz.prog 83 [vFrm f v] z emp fun v z' A' => ∃ A c, v = .slice A (frmBytes f).length c ∧ A' = bysA (frmBytes f) A c ∧ (frmBytes f).length ≤ c := by
  obtain ⟨A, c, rfl, hc, hB, hr⟩ := h.form
  (refine spec_enter0 Tryz.func83 ic83_ok fr83_ok Tryz.ntmps83 ?_; simp only [seval, go_sem, ic83, fr83])
  ((try simp only [seval, go_sem]); repeat ((first | with_reducible refine vsI.id ?_ | with_reducible refine vcI_cond ?_); (try simp only [seval, go_sem])))
  (try with_reducible refine callM.toT ?_); refine callP (frmOk_s f _ z h (by omega)) rfl rfl ?_; rintro _ _ - ⟨rfl, rfl⟩; (try simp only [seval, go_sem]); ((try simp only [seval, go_sem]); repeat ((first | with_reducible refine vsI.id ?_ | with_reducible refine vcI_cond ?_); (try simp only [seval, go_sem])))
  (with_reducible refine condI.split (fun hg => ?_) (fun hg => ?_) <;> (try simp only [hg]) <;> (try simp only [seval, go_sem]))
  · simp at hg
    ((try simp only [seval, go_sem]); repeat ((first | with_reducible refine vsI.id ?_ | with_reducible refine vcI_cond ?_); (try simp only [seval, go_sem])))
    (refine FinV.frz 1 rfl rfl (fun b z1 hz1 hr1 => ?_)); dsimp only at hz1; simp only [seval, go_sem, Go.Proofs.YtpjaidjnamngaaaGreat.frz, subV, subC, subE, subL]
    (((try simp only [seval, go_sem]); repeat ((first | with_reducible refine vsI.id ?_ | with_reducible refine vcI_cond ?_); (try simp only [seval, go_sem]))); with_reducible refine FinV.of ?_; simp only [finE, finS, gt, look, SV.toV, SC.toV, allV, tupV, List.map_cons, List.map_nil, List.length_cons, List.length_nil, Nat.reduceAdd, Nat.reduceEqDiff, reduceCtorEq, if_true, if_false, reduceIte, Nat.succ_ne_self, true_and, List.getElem?_cons_zero, Nat.zero_add, Nat.add_zero])
    rw [show frmBytes f = [] by simp only [frmBytes, hg]; rfl]
    exact ⟨_, _, rfl, by unfold bysA; rw [if_pos rfl], Nat.zero_le _⟩
  · simp at hg
    ((try simp only [seval, go_sem]); repeat ((first | with_reducible refine vsI.id ?_ | with_reducible refine vcI_cond ?_); (try simp only [seval, go_sem])))
    (try with_reducible refine callM.toT ?_); refine callP (bit_s _ _) rfl rfl ?_; rintro _ _ - ⟨rfl, rfl⟩; (try simp only [seval, go_sem]); ((try simp only [seval, go_sem]); repeat ((first | with_reducible refine vsI.id ?_ | with_reducible refine vcI_cond ?_); (try simp only [seval, go_sem])))
    (try with_reducible refine callM.toT ?_); refine callP (bit_s _ _) rfl rfl ?_; rintro _ _ - ⟨rfl, rfl⟩; (try simp only [seval, go_sem]); ((try simp only [seval, go_sem]); repeat ((first | with_reducible refine vsI.id ?_ | with_reducible refine vcI_cond ?_); (try simp only [seval, go_sem])))
    (refine appT.toRow 90 1 (m := 5) (sz := 1) rfl rfl rfl (by omega) (fun b => ?_)); simp only [seval, go_sem, rowSt, subV, subC, subE, subL]
    (try with_reducible refine appM.toT ?_); (refine appM_row 90 atyB rfl rfl rfl rfl hr (by first | omega | simp) (bc_one _) (by omega) (fun v1 => ?_)); simp only [seval, go_sem]; ((try simp only [seval, go_sem]); repeat ((first | with_reducible refine vsI.id ?_ | with_reducible refine vcI_cond ?_); (try simp only [seval, go_sem])))
    (first | refine callT.frzR 90 rfl (fun A2 c2 z2 hv2 hc2 hz2 hr2 => ?_) | refine callM.frzR 90 rfl (fun A2 c2 z2 hv2 hc2 hz2 hr2 => ?_)); dsimp only at hz2; subst hv2; simp only [seval, go_sem]
    have h2 : By z2 (frmHead f ++ f.data) (.slice A2 (5 + f.data.length) c2) := head_by hg hB hc2 (head_bc hg) hr2 rfl
    (try with_reducible refine callM.toT ?_); refine callO 91 (crcPutO _ _ z2 h2 (by simp [frmHead]; omega)) rfl rfl rfl ?_; rintro v z3 A' hz3 ⟨A3, c3, rfl, rfl, hc3⟩; (try simp only [seval, go_sem]); ((try simp only [seval, go_sem]); repeat ((first | with_reducible refine vsI.id ?_ | with_reducible refine vcI_cond ?_); (try simp only [seval, go_sem])))
    (((try simp only [seval, go_sem]); repeat ((first | with_reducible refine vsI.id ?_ | with_reducible refine vcI_cond ?_); (try simp only [seval, go_sem]))); refine FinV.own 91 rfl ?_; simp only [finE, finS, gt, look, SV.toV, SC.toV, allV, tupV, List.map_cons, List.map_nil, List.length_cons, List.length_nil, Nat.reduceAdd, Nat.reduceEqDiff, reduceCtorEq, if_true, if_false, reduceIte, Nat.succ_ne_self, true_and, List.getElem?_cons_zero, Nat.zero_add, Nat.add_zero])
    rw [frmBytes_ok hg]
    refine ⟨_, _, rfl, ?_, hc3⟩
    unfold bysA
    rw [if_neg (List.ne_nil_of_length_pos (by rw [crcPut_length]; omega))]
end Go.Proofs.YtpjaidjnamngaaaGreat
namespace Go.Proofs.YtpjaidjnamngaaaGreat
set_option linter.unusedVariables false
set_option linter.unusedSimpArgs false
open Go.RowKit
set_option maxRecDepth 100000
set_option maxHeartbeats 1000000
end Go.Proofs.YtpjaidjnamngaaaGreat
