/- What goes on its way, by the reference. · Stores into ends. · One sends, or grants, for credits, by the reference. -/
import Derived.Test.YtpjaidjnamngaaaGreatM16
namespace Go.Proofs.YtpjaidjnamngaaaGreat
set_option linter.unusedVariables false
set_option linter.unusedSimpArgs false
open Go.RowKit
set_option maxRecDepth 100000
set_option maxHeartbeats 1000000
theorem frmBytes_pos {f : Frm} (h : frmOk f = true) : 0 < (frmBytes f).length := by rw [frmBytes_ok h, crcPut_length]; omega
theorem say1_y0 {c : Cfg} {es : List End} {n0 n1 : List Msg} {l : Int} {f : Frm} (h : n0.length < 30) : say1 ⟨c, es, [n0, n1], l⟩ 1 f = ⟨c, es, [n0 ++ [⟨false, frmBytes f⟩], n1], l⟩ := by unfold say1; rw [if_pos (by exact h)]; rfl
theorem say1_n0 {c : Cfg} {es : List End} {n0 n1 : List Msg} {l : Int} {f : Frm} (h : ¬ n0.length < 30) : say1 ⟨c, es, [n0, n1], l⟩ 1 f = ⟨c, es, [n0, n1], l⟩ := by unfold say1; rw [if_neg (by exact h)]
theorem say1_y1 {c : Cfg} {es : List End} {n0 n1 : List Msg} {l : Int} {f : Frm} (h : n1.length < 30) : say1 ⟨c, es, [n0, n1], l⟩ 0 f = ⟨c, es, [n0, n1 ++ [⟨false, frmBytes f⟩]], l⟩ := by unfold say1; rw [if_pos (by exact h)]; rfl
theorem say1_n1 {c : Cfg} {es : List End} {n0 n1 : List Msg} {l : Int} {f : Frm} (h : ¬ n1.length < 30) : say1 ⟨c, es, [n0, n1], l⟩ 0 f = ⟨c, es, [n0, n1], l⟩ := by unfold say1; rw [if_neg (by exact h)]
theorem NetR.snoc {l : List Msg} {n : NetM} {m : Msg} {A a : Option Addr} {C c : Nat} (h : NetR l n) (hc : l.length + 1 ≤ C) (h1 : m.bytes.length ≤ c) (h2 : Bys m.bytes) : NetR (l ++ [m]) ⟨A, C, n.ms ++ [(a, c)]⟩ := ⟨h.ok.snoc h1 h2, by simpa using hc⟩
theorem l9way0 (c : Cfg) (link : Int) (e0 e1 : End) (n0 n1 : List Msg) (m : WM) (f : Frm) (x : Value) (z : Zc) (hR : WldR z e0 e1 n0 n1 m) (h0 : n0.length ≤ 1000) (hf : frmOk f = true) (hx : By z f.data x) (hl : f.data.length ≤ 100000) :
    Spec Tryz.prog 113 [wldV c link m, .int .i64 0, vFrm f x] z (wldA e0 e1 n0 n1 m) (WldH c (say1 ⟨c, [e0, e1], [n0, n1], link⟩ 1 f)) := by
  obtain ⟨Ax, kx, rfl, hkx, hBx, hrx⟩ := hx.form
  have hpos := frmBytes_pos hf
  have hlen := hR.n0.ok.len
  have hvl := netV_len hR.n0.ok
  (refine spec_enterL [10, 11, 20, 21, 22, 23, 30, 31, 32, 33, 40, 41, 50, 51] Tryz.func113 ic113_ok fr113_ok Tryz.ntmps113 rfl ?_; simp only [seval, go_sem, ic113, fr113, zipL])
  refine vsI.atR 11 rfl fun hN => ?_
  have hN := hN (by omega)
  ((try simp only [seval, go_sem]); repeat ((first | with_reducible refine vsI.id ?_ | with_reducible refine vcI_cond ?_); (try simp only [seval, go_sem])))
  (try with_reducible refine callM.toT ?_); refine callO 95 (frmBytesO f _ z hx hl) rfl rfl rfl ?_; rintro v z1 A' hz1 ⟨A5, c5, rfl, rfl, hc5⟩; (try simp only [seval, go_sem]); ((try simp only [seval, go_sem]); repeat ((first | with_reducible refine vsI.id ?_ | with_reducible refine vcI_cond ?_); (try simp only [seval, go_sem])))
  have hR1 : WldR z1 e0 e1 n0 n1 m := ⟨hR.e0.mono hz1, hR.e1.mono hz1, hR.n0, hR.n1⟩
  (with_reducible refine guardR.split (fun hg => ?_) (fun hg => ?_) <;> (try simp only [hg]) <;> simp only [seval, go_sem])
  · ((first | refine ⟨⟨by omega, hN⟩, ?_⟩ | refine ⟨hN, ?_⟩); (try simp only [seval, go_sem]))
    (refine ldF.one _ (RdS.cell 11 rfl rfl) ?_; simp only [seval, go_sem]; ((try simp only [seval, go_sem]); repeat ((first | with_reducible refine vsI.id ?_ | with_reducible refine vcI_cond ?_); (try simp only [seval, go_sem]))))
    (with_reducible refine condI.split (fun hg => ?_) (fun hg => ?_) <;> (try simp only [hg]) <;> (try simp only [seval, go_sem]))
    · have h30 : n0.length < 30 := by have := of_decide_eq_true hg; omega
      rw [say1_y0 h30]
      ((try simp only [seval, go_sem]); repeat ((first | with_reducible refine vsI.id ?_ | with_reducible refine vcI_cond ?_); (try simp only [seval, go_sem])))
      (with_reducible refine joinV.id ?_; simp only [seval, go_sem])
      ((first | refine ⟨⟨by omega, hN⟩, ?_⟩ | refine ⟨hN, ?_⟩); (try simp only [seval, go_sem]))
      refine And.intro ?_ ?_
      all_goals (try simp only [seval, go_sem])
      all_goals (refine ldF.one _ (RdS.cell 11 rfl rfl) ?_; simp only [seval, go_sem]; ((try simp only [seval, go_sem]); repeat ((first | with_reducible refine vsI.id ?_ | with_reducible refine vcI_cond ?_); (try simp only [seval, go_sem]))))
      all_goals (try with_reducible refine appM.toT ?_); (refine appM_newF 40 atyMs rfl rfl rfl rfl rfl rfl rfl (by simp [Value.oneCell']) (by omega) (fun A6 c6 hc6 hat6 => ?_)); simp only [seval, go_sem]; ((try simp only [seval, go_sem]); repeat ((first | with_reducible refine vsI.id ?_ | with_reducible refine vcI_cond ?_); (try simp only [seval, go_sem])))
      all_goals ((first | refine ⟨⟨by omega, hN⟩, ?_⟩ | refine ⟨hN, ?_⟩); (try simp only [seval, go_sem]))
      all_goals (refine stoV_row 11 rfl rfl rfl rfl rfl rfl rfl (by simp) ?_; simp only [seval, go_sem, putV]; ((try simp only [seval, go_sem]); repeat ((first | with_reducible refine vsI.id ?_ | with_reducible refine vcI_cond ?_); (try simp only [seval, go_sem]))))
      all_goals (refine FinV.tf (Tf.pack 96 [41, 95] (by simp only [popL, look, del, Nat.reduceEqDiff, reduceCtorEq, if_true, if_false, reduceIte, Nat.succ_ne_self]; exact rfl) (by simp only [look, Nat.reduceEqDiff, reduceCtorEq, if_true, if_false, reduceIte])) ?_); dsimp only
      all_goals refine FinV.tf (Tf.own 96 rfl rfl (fun w F h => starL_push h)) ?_
      all_goals dsimp only
      all_goals (refine FinV.tf (Tf.pack 999 [10, 11, 20, 21, 22, 23, 30, 31, 32, 33, 40, 96, 50, 51] (by simp only [popL, look, del, Nat.reduceEqDiff, reduceCtorEq, if_true, if_false, reduceIte, Nat.succ_ne_self]; exact rfl) (by simp only [look, Nat.reduceEqDiff, reduceCtorEq, if_true, if_false, reduceIte])) ?_); dsimp only
      all_goals (((try simp only [seval, go_sem]); repeat ((first | with_reducible refine vsI.id ?_ | with_reducible refine vcI_cond ?_); (try simp only [seval, go_sem]))); refine FinV.own 999 rfl ?_; simp only [finE, finS, gt, look, SV.toV, SC.toV, allV, tupV, List.map_cons, List.map_nil, List.length_cons, List.length_nil, Nat.reduceAdd, Nat.reduceEqDiff, reduceCtorEq, if_true, if_false, reduceIte, Nat.succ_ne_self, true_and, List.getElem?_cons_zero, Nat.zero_add, Nat.add_zero])
      all_goals refine ⟨e0, e1, (n0 ++ [⟨false, frmBytes f⟩]), n1, { m with n0 := ⟨A6, c6, m.n0.ms ++ [(A5, c5)]⟩ }, rfl, rfl, rfl, rfl, ?_, ⟨hR1.e0, hR1.e1, hR1.n0.snoc hc6 hc5 (frmBytes_bys hf hBx), hR1.n1⟩⟩
      all_goals simp only [wldA, netV_snoc _ _ _ _ _ hlen, netB_snoc _ _ _ _ _ hlen, List.length_append, List.length_singleton]
    · have h30 : ¬ n0.length < 30 := by have := of_decide_eq_false hg; omega
      rw [say1_n0 h30]
      ((try simp only [seval, go_sem]); repeat ((first | with_reducible refine vsI.id ?_ | with_reducible refine vcI_cond ?_); (try simp only [seval, go_sem])))
      (refine FinV.tf (Tf.pack 999 [10, 11, 20, 21, 22, 23, 30, 31, 32, 33, 40, 41, 50, 51] (by simp only [popL, look, del, Nat.reduceEqDiff, reduceCtorEq, if_true, if_false, reduceIte, Nat.succ_ne_self]; exact rfl) (by simp only [look, Nat.reduceEqDiff, reduceCtorEq, if_true, if_false, reduceIte])) ?_); dsimp only
      (((try simp only [seval, go_sem]); repeat ((first | with_reducible refine vsI.id ?_ | with_reducible refine vcI_cond ?_); (try simp only [seval, go_sem]))); refine FinV.own 999 rfl ?_; simp only [finE, finS, gt, look, SV.toV, SC.toV, allV, tupV, List.map_cons, List.map_nil, List.length_cons, List.length_nil, Nat.reduceAdd, Nat.reduceEqDiff, reduceCtorEq, if_true, if_false, reduceIte, Nat.succ_ne_self, true_and, List.getElem?_cons_zero, Nat.zero_add, Nat.add_zero])
      exact ⟨e0, e1, n0, n1, m, rfl, rfl, rfl, rfl, rfl, hR1⟩
  · exfalso
    have := of_decide_eq_false hg
    omega
theorem l9way1 (c : Cfg) (link : Int) (e0 e1 : End) (n0 n1 : List Msg) (m : WM) (f : Frm) (x : Value) (z : Zc) (hR : WldR z e0 e1 n0 n1 m) (h0 : n1.length ≤ 1000) (hf : frmOk f = true) (hx : By z f.data x) (hl : f.data.length ≤ 100000) :
    Spec Tryz.prog 113 [wldV c link m, .int .i64 1, vFrm f x] z (wldA e0 e1 n0 n1 m) (WldH c (say1 ⟨c, [e0, e1], [n0, n1], link⟩ 0 f)) := by
  obtain ⟨Ax, kx, rfl, hkx, hBx, hrx⟩ := hx.form
  have hpos := frmBytes_pos hf
  have hlen := hR.n1.ok.len
  have hvl := netV_len hR.n1.ok
  (refine spec_enterL [10, 11, 20, 21, 22, 23, 30, 31, 32, 33, 40, 41, 50, 51] Tryz.func113 ic113_ok fr113_ok Tryz.ntmps113 rfl ?_; simp only [seval, go_sem, ic113, fr113, zipL])
  refine vsI.atR 11 rfl fun hN => ?_
  have hN := hN (by omega)
  ((try simp only [seval, go_sem]); repeat ((first | with_reducible refine vsI.id ?_ | with_reducible refine vcI_cond ?_); (try simp only [seval, go_sem])))
  (try with_reducible refine callM.toT ?_); refine callO 95 (frmBytesO f _ z hx hl) rfl rfl rfl ?_; rintro v z1 A' hz1 ⟨A5, c5, rfl, rfl, hc5⟩; (try simp only [seval, go_sem]); ((try simp only [seval, go_sem]); repeat ((first | with_reducible refine vsI.id ?_ | with_reducible refine vcI_cond ?_); (try simp only [seval, go_sem])))
  have hR1 : WldR z1 e0 e1 n0 n1 m := ⟨hR.e0.mono hz1, hR.e1.mono hz1, hR.n0, hR.n1⟩
  (with_reducible refine guardR.split (fun hg => ?_) (fun hg => ?_) <;> (try simp only [hg]) <;> simp only [seval, go_sem])
  · ((first | refine ⟨⟨by omega, hN⟩, ?_⟩ | refine ⟨hN, ?_⟩); (try simp only [seval, go_sem]))
    (refine ldF.one _ (RdS.cell 11 rfl rfl) ?_; simp only [seval, go_sem]; ((try simp only [seval, go_sem]); repeat ((first | with_reducible refine vsI.id ?_ | with_reducible refine vcI_cond ?_); (try simp only [seval, go_sem]))))
    (with_reducible refine condI.split (fun hg => ?_) (fun hg => ?_) <;> (try simp only [hg]) <;> (try simp only [seval, go_sem]))
    · have h30 : n1.length < 30 := by have := of_decide_eq_true hg; omega
      rw [say1_y1 h30]
      ((try simp only [seval, go_sem]); repeat ((first | with_reducible refine vsI.id ?_ | with_reducible refine vcI_cond ?_); (try simp only [seval, go_sem])))
      (with_reducible refine joinV.id ?_; simp only [seval, go_sem])
      ((first | refine ⟨⟨by omega, hN⟩, ?_⟩ | refine ⟨hN, ?_⟩); (try simp only [seval, go_sem]))
      refine And.intro ?_ ?_
      all_goals (try simp only [seval, go_sem])
      all_goals (refine ldF.one _ (RdS.cell 11 rfl rfl) ?_; simp only [seval, go_sem]; ((try simp only [seval, go_sem]); repeat ((first | with_reducible refine vsI.id ?_ | with_reducible refine vcI_cond ?_); (try simp only [seval, go_sem]))))
      all_goals (try with_reducible refine appM.toT ?_); (refine appM_newF 50 atyMs rfl rfl rfl rfl rfl rfl rfl (by simp [Value.oneCell']) (by omega) (fun A6 c6 hc6 hat6 => ?_)); simp only [seval, go_sem]; ((try simp only [seval, go_sem]); repeat ((first | with_reducible refine vsI.id ?_ | with_reducible refine vcI_cond ?_); (try simp only [seval, go_sem])))
      all_goals ((first | refine ⟨⟨by omega, hN⟩, ?_⟩ | refine ⟨hN, ?_⟩); (try simp only [seval, go_sem]))
      all_goals (refine stoV_row 11 rfl rfl rfl rfl rfl rfl rfl (by simp) ?_; simp only [seval, go_sem, putV]; ((try simp only [seval, go_sem]); repeat ((first | with_reducible refine vsI.id ?_ | with_reducible refine vcI_cond ?_); (try simp only [seval, go_sem]))))
      all_goals (refine FinV.tf (Tf.pack 96 [51, 95] (by simp only [popL, look, del, Nat.reduceEqDiff, reduceCtorEq, if_true, if_false, reduceIte, Nat.succ_ne_self]; exact rfl) (by simp only [look, Nat.reduceEqDiff, reduceCtorEq, if_true, if_false, reduceIte])) ?_); dsimp only
      all_goals refine FinV.tf (Tf.own 96 rfl rfl (fun w F h => starL_push h)) ?_
      all_goals dsimp only
      all_goals (refine FinV.tf (Tf.pack 999 [10, 11, 20, 21, 22, 23, 30, 31, 32, 33, 40, 41, 50, 96] (by simp only [popL, look, del, Nat.reduceEqDiff, reduceCtorEq, if_true, if_false, reduceIte, Nat.succ_ne_self]; exact rfl) (by simp only [look, Nat.reduceEqDiff, reduceCtorEq, if_true, if_false, reduceIte])) ?_); dsimp only
      all_goals (((try simp only [seval, go_sem]); repeat ((first | with_reducible refine vsI.id ?_ | with_reducible refine vcI_cond ?_); (try simp only [seval, go_sem]))); refine FinV.own 999 rfl ?_; simp only [finE, finS, gt, look, SV.toV, SC.toV, allV, tupV, List.map_cons, List.map_nil, List.length_cons, List.length_nil, Nat.reduceAdd, Nat.reduceEqDiff, reduceCtorEq, if_true, if_false, reduceIte, Nat.succ_ne_self, true_and, List.getElem?_cons_zero, Nat.zero_add, Nat.add_zero])
      all_goals refine ⟨e0, e1, n0, (n1 ++ [⟨false, frmBytes f⟩]), { m with n1 := ⟨A6, c6, m.n1.ms ++ [(A5, c5)]⟩ }, rfl, rfl, rfl, rfl, ?_, ⟨hR1.e0, hR1.e1, hR1.n0, hR1.n1.snoc hc6 hc5 (frmBytes_bys hf hBx)⟩⟩
      all_goals simp only [wldA, netV_snoc _ _ _ _ _ hlen, netB_snoc _ _ _ _ _ hlen, List.length_append, List.length_singleton]
    · have h30 : ¬ n1.length < 30 := by have := of_decide_eq_false hg; omega
      rw [say1_n1 h30]
      ((try simp only [seval, go_sem]); repeat ((first | with_reducible refine vsI.id ?_ | with_reducible refine vcI_cond ?_); (try simp only [seval, go_sem])))
      (refine FinV.tf (Tf.pack 999 [10, 11, 20, 21, 22, 23, 30, 31, 32, 33, 40, 41, 50, 51] (by simp only [popL, look, del, Nat.reduceEqDiff, reduceCtorEq, if_true, if_false, reduceIte, Nat.succ_ne_self]; exact rfl) (by simp only [look, Nat.reduceEqDiff, reduceCtorEq, if_true, if_false, reduceIte])) ?_); dsimp only
      (((try simp only [seval, go_sem]); repeat ((first | with_reducible refine vsI.id ?_ | with_reducible refine vcI_cond ?_); (try simp only [seval, go_sem]))); refine FinV.own 999 rfl ?_; simp only [finE, finS, gt, look, SV.toV, SC.toV, allV, tupV, List.map_cons, List.map_nil, List.length_cons, List.length_nil, Nat.reduceAdd, Nat.reduceEqDiff, reduceCtorEq, if_true, if_false, reduceIte, Nat.succ_ne_self, true_and, List.getElem?_cons_zero, Nat.zero_add, Nat.add_zero])
      exact ⟨e0, e1, n0, n1, m, rfl, rfl, rfl, rfl, rfl, hR1⟩
  · exfalso
    have := of_decide_eq_false hg
    omega
end Go.Proofs.YtpjaidjnamngaaaGreat
namespace Go.Proofs.YtpjaidjnamngaaaGreat
set_option linter.unusedVariables false
set_option linter.unusedSimpArgs false
open Go.RowKit
set_option maxRecDepth 100000
set_option maxHeartbeats 1000000
theorem endsC_len (e0 e1 : End) (m0 m1 : EndM) : (endsC e0 e1 m0 m1).length = 56 := rfl
theorem endC_len (e : End) (m : EndM) : (endC e m).length = 28 := rfl
theorem ends_get0 {e0 e1 : End} {m0 m1 : EndM} {i : Nat} {u : Value} (h : (endC e0 m0)[i]? = some u) : (endsC e0 e1 m0 m1)[0 + i]? = some u := by
  have hi : i < (endC e0 m0).length := (List.getElem?_eq_some_iff.1 h).1
  rw [Nat.zero_add, endsC, List.getElem?_append_left hi]; exact h
theorem ends_get1 {e0 e1 : End} {m0 m1 : EndM} {i : Nat} {u : Value} (h : (endC e1 m1)[i]? = some u) : (endsC e0 e1 m0 m1)[28 + i]? = some u := by
  rw [endsC, List.getElem?_append_right (by rw [endC_len]; omega), endC_len, Nat.add_sub_cancel_left]; exact h
theorem ends_ctx0 (e0 e1 : End) (m0 m1 : EndM) (hav granted sent : Int) (dead : Bool) (qu : List Part) (cA : Option Addr) (cC : Nat) : putV (endsC e0 e1 m0 m1) 17 [.int .i64 hav, .slice cA qu.length cC, .int .i64 granted, .int .i64 sent, .bool dead] = endsC { e0 with ctx := ⟨hav, qu, granted, sent, dead⟩ } e1 { m0 with cA := cA, cC := cC } m1 := rfl
theorem ends_ctx1 (e0 e1 : End) (m0 m1 : EndM) (hav granted sent : Int) (dead : Bool) (qu : List Part) (cA : Option Addr) (cC : Nat) : putV (endsC e0 e1 m0 m1) 45 [.int .i64 hav, .slice cA qu.length cC, .int .i64 granted, .int .i64 sent, .bool dead] = endsC e0 { e1 with ctx := ⟨hav, qu, granted, sent, dead⟩ } m0 { m1 with cA := cA, cC := cC } := rfl
theorem ends_crx0 (e0 e1 : End) (m0 m1 : EndM) (out len : Int) (dead : Bool) (got : List Int) (kA : Option Addr) (kC : Nat) : putV (endsC e0 e1 m0 m1) 22 [.int .i64 out, .int .i64 len, .slice kA got.length kC, .bool dead] = endsC { e0 with crx := ⟨out, ⟨len, got⟩, dead⟩ } e1 { m0 with kA := kA, kC := kC } m1 := rfl
theorem ends_crx1 (e0 e1 : End) (m0 m1 : EndM) (out len : Int) (dead : Bool) (got : List Int) (kA : Option Addr) (kC : Nat) : putV (endsC e0 e1 m0 m1) 50 [.int .i64 out, .int .i64 len, .slice kA got.length kC, .bool dead] = endsC e0 { e1 with crx := ⟨out, ⟨len, got⟩, dead⟩ } m0 { m1 with kA := kA, kC := kC } := rfl
theorem ends_put0 (e0 e1 : End) (m0 m1 : EndM) (l : List (List Int)) (n c : Nat) (A : Option Addr) (h : n = l.length) : putV (endsC e0 e1 m0 m1) 26 [.slice A n c] = endsC { e0 with put := l } e1 { m0 with pA := A, pC := c } m1 := by subst h; rfl
theorem ends_put1 (e0 e1 : End) (m0 m1 : EndM) (l : List (List Int)) (n c : Nat) (A : Option Addr) (h : n = l.length) : putV (endsC e0 e1 m0 m1) 54 [.slice A n c] = endsC e0 { e1 with put := l } m0 { m1 with pA := A, pC := c } := by subst h; rfl
theorem ends_got0 (e0 e1 : End) (m0 m1 : EndM) (l : List (List Int)) (n c : Nat) (A : Option Addr) (h : n = l.length) : putV (endsC e0 e1 m0 m1) 27 [.slice A n c] = endsC { e0 with got := l } e1 { m0 with gA := A, gC := c } m1 := by subst h; rfl
theorem ends_got1 (e0 e1 : End) (m0 m1 : EndM) (l : List (List Int)) (n c : Nat) (A : Option Addr) (h : n = l.length) : putV (endsC e0 e1 m0 m1) 55 [.slice A n c] = endsC e0 { e1 with got := l } m0 { m1 with gA := A, gC := c } := by subst h; rfl
/-- One takes a message. -/
def putM (c : Cfg) (x : End) (sdu : List Int) : End := if c.mode = 1 then { x with tx := (txPut c x.tx sdu).1, put := if (txPut c x.tx sdu).2 then x.put ++ [sdu] else x.put } else { x with ctx := (crdPut c x.ctx sdu).1, put := if (crdPut c x.ctx sdu).2 then x.put ++ [sdu] else x.put }
theorem crdPutG_ok {c : Cfg} {t : CTx} {sdu : List Int} (h : CTxI c t) : crdPutG c t sdu = crdPut c t sdu := by unfold crdPutG; rw [if_pos (ctxOk_iff.2 h)]
theorem l9put_c0 (c : Cfg) (link : Int) (e0 e1 : End) (n0 n1 : List Msg) (m : WM) (sdu : List Int) (v : Value) (z : Zc) (hR : WldR z e0 e1 n0 n1 m) (hI : EndI c e0) (hv : By z sdu v) (hs : sdu.length ≤ 100000) (hm : c.mode = 2) (h60 : e0.put.length < 60) :
    Spec Tryz.prog 86 [wldV c link m, .int .i64 0, v] z (wldA e0 e1 n0 n1 m) fun u z' A' => ∃ e', e' = putM c e0 sdu ∧ WldH c ⟨c, [e0, e1].set 0 e', [n0, n1], link⟩ u z' A' := by
  obtain ⟨Av, kv, rfl, hkv, hBv, hrv⟩ := hv.form
  have hp8 := hI.ctx.small
  have hq24 := hI.ctx.queue
  (refine spec_enterL [10, 11, 20, 21, 22, 23, 30, 31, 32, 33, 40, 41, 50, 51] Tryz.func86 ic86_ok fr86_ok Tryz.ntmps86 rfl ?_; simp only [seval, go_sem, ic86, fr86, zipL])
  refine vsI.atR 10 rfl fun hE => ?_
  have hE := hE (by omega)
  ((try simp only [seval, go_sem]); repeat ((first | with_reducible refine vsI.id ?_ | with_reducible refine vcI_cond ?_); (try simp only [seval, go_sem])))
  ((first | refine ⟨⟨by omega, hE⟩, ?_⟩ | refine ⟨hE, ?_⟩); (try simp only [seval, go_sem]))
  (refine ldF.agg (sz := 28) _ rfl (by exact .inr ⟨10, _, _, _, _, _, rfl, fun i u hu => ends_get0 hu⟩) ?_; simp only [seval, go_sem, endC]; ((try simp only [seval, go_sem]); repeat ((first | with_reducible refine vsI.id ?_ | with_reducible refine vcI_cond ?_); (try simp only [seval, go_sem]))))
  (with_reducible refine condI.split (fun hg => ?_) (fun hg => ?_) <;> (try simp only [hg]) <;> (try simp only [seval, go_sem]))
  · exfalso
    simp at hg
    omega
  · ((try simp only [seval, go_sem]); repeat ((first | with_reducible refine vsI.id ?_ | with_reducible refine vcI_cond ?_); (try simp only [seval, go_sem])))
    (with_reducible refine condI.split (fun hg => ?_) (fun hg => ?_) <;> (try simp only [hg]) <;> (try simp only [seval, go_sem]))
    · exfalso
      simp [hm] at hg
    · ((try simp only [seval, go_sem]); repeat ((first | with_reducible refine vsI.id ?_ | with_reducible refine vcI_cond ?_); (try simp only [seval, go_sem])))
      have hc := crdput_s c e0.ctx sdu _ _ z hR.e0.cq (by omega) (fun p hp => by have := hp8 p hp; omega) hv hs
      simp only [crdPutG_ok hI.ctx] at hc
      (try with_reducible refine callM.toT ?_); refine callP (hc) rfl rfl ?_; rintro u z1 hz1 ⟨_, rfl, A3, k3, cs3, rfl, hk3, he3, hr3⟩; (try simp only [seval, go_sem]); ((try simp only [seval, go_sem]); repeat ((first | with_reducible refine vsI.id ?_ | with_reducible refine vcI_cond ?_); (try simp only [seval, go_sem])))
      have hR1 : WldR z1 e0 e1 n0 n1 m := ⟨hR.e0.mono hz1, hR.e1.mono hz1, hR.n0, hR.n1⟩
      ((first | refine ⟨⟨by omega, hE⟩, ?_⟩ | refine ⟨hE, ?_⟩); (try simp only [seval, go_sem]))
      (refine stoV_row 10 rfl rfl rfl rfl rfl rfl rfl (by rw [endsC_len]; simp) ?_; simp only [seval, go_sem, ends_ctx0]; ((try simp only [seval, go_sem]); repeat ((first | with_reducible refine vsI.id ?_ | with_reducible refine vcI_cond ?_); (try simp only [seval, go_sem]))))
      have hput : putM c e0 sdu = { e0 with ctx := (crdPut c e0.ctx sdu).1, put := if (crdPut c e0.ctx sdu).2 then e0.put ++ [sdu] else e0.put } := by unfold putM; rw [if_neg (by omega)]
      (with_reducible refine condI.split (fun hg => ?_) (fun hg => ?_) <;> (try simp only [hg]) <;> (try simp only [seval, go_sem]))
      · ((try simp only [seval, go_sem]); repeat ((first | with_reducible refine vsI.id ?_ | with_reducible refine vcI_cond ?_); (try simp only [seval, go_sem])))
        (try with_reducible refine appM.toT ?_); (refine appM_empty 99 atyB rfl (by first | exact .inl ⟨_, rfl⟩ | exact .inr ⟨_, _, rfl⟩) rfl (hrv.mono hz1) (by first | omega | (simp <;> omega)) (bc_one _) (by omega) (fun A5 c5 z5 hz5 hc5 hr5 => ?_)); dsimp only at hz5; simp only [seval, go_sem]; ((try simp only [seval, go_sem]); repeat ((first | with_reducible refine vsI.id ?_ | with_reducible refine vcI_cond ?_); (try simp only [seval, go_sem])))
        (try with_reducible refine appM.toT ?_); (refine appM_newF 22 atyS rfl rfl rfl rfl rfl rfl rfl (by simp [Value.oneCell']) (by omega) (fun A6 c6 hc6 hat6 => ?_)); simp only [seval, go_sem]; ((try simp only [seval, go_sem]); repeat ((first | with_reducible refine vsI.id ?_ | with_reducible refine vcI_cond ?_); (try simp only [seval, go_sem])))
        ((first | refine ⟨⟨by omega, hE⟩, ?_⟩ | refine ⟨hE, ?_⟩); (try simp only [seval, go_sem]))
        (refine stoV_row 10 rfl rfl rfl rfl rfl rfl rfl (by rw [endsC_len]; simp) ?_; simp only [seval, go_sem]; ((try simp only [seval, go_sem]); repeat ((first | with_reducible refine vsI.id ?_ | with_reducible refine vcI_cond ?_); (try simp only [seval, go_sem]))))
        (refine FinV.tf (Tf.pack 999 [10, 11, 20, 21, 22, 23, 30, 31, 32, 33, 40, 41, 50, 51] (by simp only [popL, look, del, Nat.reduceEqDiff, reduceCtorEq, if_true, if_false, reduceIte, Nat.succ_ne_self]; exact rfl) (by simp only [look, Nat.reduceEqDiff, reduceCtorEq, if_true, if_false, reduceIte])) ?_); dsimp only
        (((try simp only [seval, go_sem]); repeat ((first | with_reducible refine vsI.id ?_ | with_reducible refine vcI_cond ?_); (try simp only [seval, go_sem]))); refine FinV.own 999 rfl ?_; simp only [finE, finS, gt, look, SV.toV, SC.toV, allV, tupV, List.map_cons, List.map_nil, List.length_cons, List.length_nil, Nat.reduceAdd, Nat.reduceEqDiff, reduceCtorEq, if_true, if_false, reduceIte, Nat.succ_ne_self, true_and, List.getElem?_cons_zero, Nat.zero_add, Nat.add_zero])
        rw [hput, hg, ends_put0 _ _ _ _ (e0.put ++ [sdu]) _ _ _ (by simp)]
        have hR5 : WldR z5 e0 e1 n0 n1 m := ⟨hR1.e0.mono hz5, hR1.e1.mono hz5, hR.n0, hR.n1⟩
        refine ⟨_, rfl, _, e1, n0, n1, { m with m0 := { m.m0 with cA := A3, cC := k3, pA := A6, pC := c6, pV := m.m0.pV ++ [.slice A5 sdu.length c5] } }, rfl, rfl, rfl, rfl, ?_, ?_⟩
        · simp only [wldA, if_true, List.length_append, List.length_singleton]
          rfl
        · exact ⟨{ hR5.e0 with cq := ⟨_, _, _, rfl, hk3, he3.mono hz5, hr3.mono hz5⟩, pu := hR5.e0.pu.append (Els.single (d := sduRep) ⟨_, rfl, By.mk hc5 hBv hr5⟩), pc := by simp; exact hc6 }, hR5.e1, hR.n0, hR.n1⟩
      · ((try simp only [seval, go_sem]); repeat ((first | with_reducible refine vsI.id ?_ | with_reducible refine vcI_cond ?_); (try simp only [seval, go_sem])))
        (refine FinV.tf (Tf.pack 999 [10, 11, 20, 21, 22, 23, 30, 31, 32, 33, 40, 41, 50, 51] (by simp only [popL, look, del, Nat.reduceEqDiff, reduceCtorEq, if_true, if_false, reduceIte, Nat.succ_ne_self]; exact rfl) (by simp only [look, Nat.reduceEqDiff, reduceCtorEq, if_true, if_false, reduceIte])) ?_); dsimp only
        (((try simp only [seval, go_sem]); repeat ((first | with_reducible refine vsI.id ?_ | with_reducible refine vcI_cond ?_); (try simp only [seval, go_sem]))); refine FinV.own 999 rfl ?_; simp only [finE, finS, gt, look, SV.toV, SC.toV, allV, tupV, List.map_cons, List.map_nil, List.length_cons, List.length_nil, Nat.reduceAdd, Nat.reduceEqDiff, reduceCtorEq, if_true, if_false, reduceIte, Nat.succ_ne_self, true_and, List.getElem?_cons_zero, Nat.zero_add, Nat.add_zero])
        rw [hput, hg]
        exact ⟨_, rfl, _, e1, n0, n1, { m with m0 := { m.m0 with cA := A3, cC := k3 } }, rfl, rfl, rfl, rfl, rfl, ⟨{ hR1.e0 with cq := ⟨_, _, _, rfl, hk3, he3, hr3⟩ }, hR1.e1, hR.n0, hR.n1⟩⟩
theorem l9put_c1 (c : Cfg) (link : Int) (e0 e1 : End) (n0 n1 : List Msg) (m : WM) (sdu : List Int) (v : Value) (z : Zc) (hR : WldR z e0 e1 n0 n1 m) (hI : EndI c e1) (hv : By z sdu v) (hs : sdu.length ≤ 100000) (hm : c.mode = 2) (h60 : e1.put.length < 60) :
    Spec Tryz.prog 86 [wldV c link m, .int .i64 1, v] z (wldA e0 e1 n0 n1 m) fun u z' A' => ∃ e', e' = putM c e1 sdu ∧ WldH c ⟨c, [e0, e1].set 1 e', [n0, n1], link⟩ u z' A' := by
  obtain ⟨Av, kv, rfl, hkv, hBv, hrv⟩ := hv.form
  have hp8 := hI.ctx.small
  have hq24 := hI.ctx.queue
  (refine spec_enterL [10, 11, 20, 21, 22, 23, 30, 31, 32, 33, 40, 41, 50, 51] Tryz.func86 ic86_ok fr86_ok Tryz.ntmps86 rfl ?_; simp only [seval, go_sem, ic86, fr86, zipL])
  refine vsI.atR 10 rfl fun hE => ?_
  have hE := hE (by omega)
  ((try simp only [seval, go_sem]); repeat ((first | with_reducible refine vsI.id ?_ | with_reducible refine vcI_cond ?_); (try simp only [seval, go_sem])))
  ((first | refine ⟨⟨by omega, hE⟩, ?_⟩ | refine ⟨hE, ?_⟩); (try simp only [seval, go_sem]))
  (refine ldF.agg (sz := 28) _ rfl (by exact .inr ⟨10, _, _, _, _, _, rfl, fun i u hu => ends_get1 hu⟩) ?_; simp only [seval, go_sem, endC]; ((try simp only [seval, go_sem]); repeat ((first | with_reducible refine vsI.id ?_ | with_reducible refine vcI_cond ?_); (try simp only [seval, go_sem]))))
  (with_reducible refine condI.split (fun hg => ?_) (fun hg => ?_) <;> (try simp only [hg]) <;> (try simp only [seval, go_sem]))
  · exfalso
    simp at hg
    omega
  · ((try simp only [seval, go_sem]); repeat ((first | with_reducible refine vsI.id ?_ | with_reducible refine vcI_cond ?_); (try simp only [seval, go_sem])))
    (with_reducible refine condI.split (fun hg => ?_) (fun hg => ?_) <;> (try simp only [hg]) <;> (try simp only [seval, go_sem]))
    · exfalso
      simp [hm] at hg
    · ((try simp only [seval, go_sem]); repeat ((first | with_reducible refine vsI.id ?_ | with_reducible refine vcI_cond ?_); (try simp only [seval, go_sem])))
      have hc := crdput_s c e1.ctx sdu _ _ z hR.e1.cq (by omega) (fun p hp => by have := hp8 p hp; omega) hv hs
      simp only [crdPutG_ok hI.ctx] at hc
      (try with_reducible refine callM.toT ?_); refine callP (hc) rfl rfl ?_; rintro u z1 hz1 ⟨_, rfl, A3, k3, cs3, rfl, hk3, he3, hr3⟩; (try simp only [seval, go_sem]); ((try simp only [seval, go_sem]); repeat ((first | with_reducible refine vsI.id ?_ | with_reducible refine vcI_cond ?_); (try simp only [seval, go_sem])))
      have hR1 : WldR z1 e0 e1 n0 n1 m := ⟨hR.e0.mono hz1, hR.e1.mono hz1, hR.n0, hR.n1⟩
      ((first | refine ⟨⟨by omega, hE⟩, ?_⟩ | refine ⟨hE, ?_⟩); (try simp only [seval, go_sem]))
      (refine stoV_row 10 rfl rfl rfl rfl rfl rfl rfl (by rw [endsC_len]; simp) ?_; simp only [seval, go_sem, ends_ctx1]; ((try simp only [seval, go_sem]); repeat ((first | with_reducible refine vsI.id ?_ | with_reducible refine vcI_cond ?_); (try simp only [seval, go_sem]))))
      have hput : putM c e1 sdu = { e1 with ctx := (crdPut c e1.ctx sdu).1, put := if (crdPut c e1.ctx sdu).2 then e1.put ++ [sdu] else e1.put } := by unfold putM; rw [if_neg (by omega)]
      (with_reducible refine condI.split (fun hg => ?_) (fun hg => ?_) <;> (try simp only [hg]) <;> (try simp only [seval, go_sem]))
      · ((try simp only [seval, go_sem]); repeat ((first | with_reducible refine vsI.id ?_ | with_reducible refine vcI_cond ?_); (try simp only [seval, go_sem])))
        (try with_reducible refine appM.toT ?_); (refine appM_empty 99 atyB rfl (by first | exact .inl ⟨_, rfl⟩ | exact .inr ⟨_, _, rfl⟩) rfl (hrv.mono hz1) (by first | omega | (simp <;> omega)) (bc_one _) (by omega) (fun A5 c5 z5 hz5 hc5 hr5 => ?_)); dsimp only at hz5; simp only [seval, go_sem]; ((try simp only [seval, go_sem]); repeat ((first | with_reducible refine vsI.id ?_ | with_reducible refine vcI_cond ?_); (try simp only [seval, go_sem])))
        (try with_reducible refine appM.toT ?_); (refine appM_newF 32 atyS rfl rfl rfl rfl rfl rfl rfl (by simp [Value.oneCell']) (by omega) (fun A6 c6 hc6 hat6 => ?_)); simp only [seval, go_sem]; ((try simp only [seval, go_sem]); repeat ((first | with_reducible refine vsI.id ?_ | with_reducible refine vcI_cond ?_); (try simp only [seval, go_sem])))
        ((first | refine ⟨⟨by omega, hE⟩, ?_⟩ | refine ⟨hE, ?_⟩); (try simp only [seval, go_sem]))
        (refine stoV_row 10 rfl rfl rfl rfl rfl rfl rfl (by rw [endsC_len]; simp) ?_; simp only [seval, go_sem]; ((try simp only [seval, go_sem]); repeat ((first | with_reducible refine vsI.id ?_ | with_reducible refine vcI_cond ?_); (try simp only [seval, go_sem]))))
        (refine FinV.tf (Tf.pack 999 [10, 11, 20, 21, 22, 23, 30, 31, 32, 33, 40, 41, 50, 51] (by simp only [popL, look, del, Nat.reduceEqDiff, reduceCtorEq, if_true, if_false, reduceIte, Nat.succ_ne_self]; exact rfl) (by simp only [look, Nat.reduceEqDiff, reduceCtorEq, if_true, if_false, reduceIte])) ?_); dsimp only
        (((try simp only [seval, go_sem]); repeat ((first | with_reducible refine vsI.id ?_ | with_reducible refine vcI_cond ?_); (try simp only [seval, go_sem]))); refine FinV.own 999 rfl ?_; simp only [finE, finS, gt, look, SV.toV, SC.toV, allV, tupV, List.map_cons, List.map_nil, List.length_cons, List.length_nil, Nat.reduceAdd, Nat.reduceEqDiff, reduceCtorEq, if_true, if_false, reduceIte, Nat.succ_ne_self, true_and, List.getElem?_cons_zero, Nat.zero_add, Nat.add_zero])
        rw [hput, hg, ends_put1 _ _ _ _ (e1.put ++ [sdu]) _ _ _ (by simp)]
        have hR5 : WldR z5 e0 e1 n0 n1 m := ⟨hR1.e0.mono hz5, hR1.e1.mono hz5, hR.n0, hR.n1⟩
        refine ⟨_, rfl, e0, _, n0, n1, { m with m1 := { m.m1 with cA := A3, cC := k3, pA := A6, pC := c6, pV := m.m1.pV ++ [.slice A5 sdu.length c5] } }, rfl, rfl, rfl, rfl, ?_, ?_⟩
        · simp only [wldA, if_true, List.length_append, List.length_singleton]
          rfl
        · exact ⟨hR5.e0, { hR5.e1 with cq := ⟨_, _, _, rfl, hk3, he3.mono hz5, hr3.mono hz5⟩, pu := hR5.e1.pu.append (Els.single (d := sduRep) ⟨_, rfl, By.mk hc5 hBv hr5⟩), pc := by simp; exact hc6 }, hR.n0, hR.n1⟩
      · ((try simp only [seval, go_sem]); repeat ((first | with_reducible refine vsI.id ?_ | with_reducible refine vcI_cond ?_); (try simp only [seval, go_sem])))
        (refine FinV.tf (Tf.pack 999 [10, 11, 20, 21, 22, 23, 30, 31, 32, 33, 40, 41, 50, 51] (by simp only [popL, look, del, Nat.reduceEqDiff, reduceCtorEq, if_true, if_false, reduceIte, Nat.succ_ne_self]; exact rfl) (by simp only [look, Nat.reduceEqDiff, reduceCtorEq, if_true, if_false, reduceIte])) ?_); dsimp only
        (((try simp only [seval, go_sem]); repeat ((first | with_reducible refine vsI.id ?_ | with_reducible refine vcI_cond ?_); (try simp only [seval, go_sem]))); refine FinV.own 999 rfl ?_; simp only [finE, finS, gt, look, SV.toV, SC.toV, allV, tupV, List.map_cons, List.map_nil, List.length_cons, List.length_nil, Nat.reduceAdd, Nat.reduceEqDiff, reduceCtorEq, if_true, if_false, reduceIte, Nat.succ_ne_self, true_and, List.getElem?_cons_zero, Nat.zero_add, Nat.add_zero])
        rw [hput, hg]
        exact ⟨_, rfl, e0, _, n0, n1, { m with m1 := { m.m1 with cA := A3, cC := k3 } }, rfl, rfl, rfl, rfl, rfl, ⟨hR1.e0, { hR1.e1 with cq := ⟨_, _, _, rfl, hk3, he3, hr3⟩ }, hR.n0, hR.n1⟩⟩
end Go.Proofs.YtpjaidjnamngaaaGreat
namespace Go.Proofs.YtpjaidjnamngaaaGreat
set_option linter.unusedVariables false
set_option linter.unusedSimpArgs false
open Go.RowKit
set_option maxRecDepth 100000
set_option maxHeartbeats 1000000
theorem pieceFrm_ok {p : Part} (h : partOk p = true) : frmOk ⟨3, 0, 0, false, false, 0, p.seg, p.len, p.data⟩ = true := by
  have h' : pieceOk p.seg p.len p.data.length = true := h
  simp [frmOk, h']
theorem grantFrm_ok {n : Int} (h : 1 ≤ n ∧ n ≤ 255) : frmOk ⟨4, 0, 0, false, false, 0, 0, n, []⟩ = true := by
  simp [frmOk, inB, h.1, h.2]
theorem crdSend_frm {c : Cfg} {t : CTx} {f : Frm} (h : CTxI c t) (hf : (crdSend t).2 = some f) : frmOk f = true ∧ f.data.length ≤ 8 := by
  unfold crdSend at hf
  split at hf
  · cases hf
  · rename_i p q hq
    split at hf
    · cases hf
    · injection hf with hf
      subst hf
      have := h.qu p (by rw [hq]; simp)
      exact ⟨pieceFrm_ok this.1, by have := h.cfg.mps; simp only; omega⟩
theorem crdGrant_frm {r : CRx} {f : Frm} (h : CRxI r) (hf : (crdGrant r).2 = some f) : frmOk f = true ∧ f.data.length ≤ 8 := by
  unfold crdGrant at hf
  split at hf
  · cases hf
  · rename_i g
    injection hf with hf
    subst hf
    have := h.1
    exact ⟨grantFrm_ok (by simp only [not_or] at g; omega), by simp⟩
theorem crdSendG_ok {c : Cfg} {t : CTx} (h : CTxI c t) : crdSendG c t = crdSend t := by unfold crdSendG; rw [if_pos (ctxOk_iff.2 h)]
theorem crdGrantG_ok {r : CRx} (h : CRxI r) : crdGrantG r = crdGrant r := by unfold crdGrantG; rw [if_pos (crxOk_iff.2 h)]
theorem wr10 : IntKind.i64.wrap 1 = 1 := rfl
theorem wr11 : IntKind.i64.wrap 0 = 0 := rfl
theorem l9send_c0 (c : Cfg) (link : Int) (e0 e1 : End) (n0 n1 : List Msg) (m : WM) (z : Zc) (hR : WldR z e0 e1 n0 n1 m) (hI : EndI c e0) (hm : c.mode = 2) (h30 : n1.length ≤ 30) :
    Spec Tryz.prog 87 [wldV c link m, .int .i64 0] z (wldA e0 e1 n0 n1 m) (WldH c (if n1.length < 30 then sayO ⟨c, [{ e0 with ctx := (crdSend e0.ctx).1 }, e1], [n0, n1], link⟩ 0 (crdSend e0.ctx).2 else ⟨c, [e0, e1], [n0, n1], link⟩)) := by
  have hp8 := hI.ctx.small
  have hq24 := hI.ctx.queue
  (refine spec_enterL [10, 11, 20, 21, 22, 23, 30, 31, 32, 33, 40, 41, 50, 51] Tryz.func87 ic87_ok fr87_ok Tryz.ntmps87 rfl ?_; simp only [seval, go_sem, ic87, fr87, zipL])
  refine vsI.atR 10 rfl fun hE => ?_
  have hE := hE (by omega)
  refine vsI.atR 11 rfl fun hN => ?_
  have hN := hN (by omega)
  ((try simp only [seval, go_sem]); repeat ((first | with_reducible refine vsI.id ?_ | with_reducible refine vcI_cond ?_); (try simp only [seval, go_sem])))
  ((first | refine ⟨⟨by omega, hE⟩, ?_⟩ | refine ⟨hE, ?_⟩); (try simp only [seval, go_sem]))
  (refine ldF.agg (sz := 28) _ rfl (by exact .inr ⟨10, _, _, _, _, _, rfl, fun i u hu => ends_get0 hu⟩) ?_; simp only [seval, go_sem, endC]; ((try simp only [seval, go_sem]); repeat ((first | with_reducible refine vsI.id ?_ | with_reducible refine vcI_cond ?_); (try simp only [seval, go_sem]))))
  simp only [wr10]
  simp only [seval, go_sem]
  ((first | refine ⟨⟨by omega, hN⟩, ?_⟩ | refine ⟨hN, ?_⟩); (try simp only [seval, go_sem]))
  (refine ldF.one _ (RdS.cell 11 rfl rfl) ?_; simp only [seval, go_sem]; ((try simp only [seval, go_sem]); repeat ((first | with_reducible refine vsI.id ?_ | with_reducible refine vcI_cond ?_); (try simp only [seval, go_sem]))))
  (with_reducible refine condI.split (fun hg => ?_) (fun hg => ?_) <;> (try simp only [hg]) <;> (try simp only [seval, go_sem]))
  · rw [if_neg (by simp at hg; omega)]
    ((try simp only [seval, go_sem]); repeat ((first | with_reducible refine vsI.id ?_ | with_reducible refine vcI_cond ?_); (try simp only [seval, go_sem])))
    (refine FinV.tf (Tf.pack 999 [10, 11, 20, 21, 22, 23, 30, 31, 32, 33, 40, 41, 50, 51] (by simp only [popL, look, del, Nat.reduceEqDiff, reduceCtorEq, if_true, if_false, reduceIte, Nat.succ_ne_self]; exact rfl) (by simp only [look, Nat.reduceEqDiff, reduceCtorEq, if_true, if_false, reduceIte])) ?_); dsimp only
    (((try simp only [seval, go_sem]); repeat ((first | with_reducible refine vsI.id ?_ | with_reducible refine vcI_cond ?_); (try simp only [seval, go_sem]))); refine FinV.own 999 rfl ?_; simp only [finE, finS, gt, look, SV.toV, SC.toV, allV, tupV, List.map_cons, List.map_nil, List.length_cons, List.length_nil, Nat.reduceAdd, Nat.reduceEqDiff, reduceCtorEq, if_true, if_false, reduceIte, Nat.succ_ne_self, true_and, List.getElem?_cons_zero, Nat.zero_add, Nat.add_zero])
    exact ⟨e0, e1, n0, n1, m, rfl, rfl, rfl, rfl, rfl, hR⟩
  · rw [if_pos (by simp at hg; omega)]
    ((try simp only [seval, go_sem]); repeat ((first | with_reducible refine vsI.id ?_ | with_reducible refine vcI_cond ?_); (try simp only [seval, go_sem])))
    (with_reducible refine condI.split (fun hg => ?_) (fun hg => ?_) <;> (try simp only [hg]) <;> (try simp only [seval, go_sem]))
    · exfalso
      simp [hm] at hg
    · ((try simp only [seval, go_sem]); repeat ((first | with_reducible refine vsI.id ?_ | with_reducible refine vcI_cond ?_); (try simp only [seval, go_sem])))
      have hc := crdsend_s c e0.ctx _ z hR.e0.cq (by omega) (fun p hp => by have := hp8 p hp; omega)
      simp only [crdSendG_ok hI.ctx] at hc
      (try with_reducible refine callM.toT ?_); refine callP (hc) rfl rfl ?_; rintro u z1 hz1 ⟨_, _, _, rfl, ⟨A3, k3, cs3, rfl, hk3, he3, hr3⟩, _, rfl, ⟨Ax, kx, csx, rfl, hkx, hex, hrx⟩, rfl⟩; (try simp only [seval, go_sem]); ((try simp only [seval, go_sem]); repeat ((first | with_reducible refine vsI.id ?_ | with_reducible refine vcI_cond ?_); (try simp only [seval, go_sem])))
      have hR1 : WldR z1 e0 e1 n0 n1 m := ⟨hR.e0.mono hz1, hR.e1.mono hz1, hR.n0, hR.n1⟩
      ((first | refine ⟨⟨by omega, hE⟩, ?_⟩ | refine ⟨hE, ?_⟩); (try simp only [seval, go_sem]))
      (refine stoV_row 10 rfl rfl rfl rfl rfl rfl rfl (by rw [endsC_len]; simp) ?_; simp only [seval, go_sem, ends_ctx0]; ((try simp only [seval, go_sem]); repeat ((first | with_reducible refine vsI.id ?_ | with_reducible refine vcI_cond ?_); (try simp only [seval, go_sem]))))
      have hR2 : WldR z1 { e0 with ctx := (crdSend e0.ctx).1 } e1 n0 n1 { m with m0 := { m.m0 with cA := A3, cC := k3 } } := ⟨{ hR1.e0 with cq := ⟨_, _, _, rfl, hk3, he3, hr3⟩ }, hR1.e1, hR.n0, hR.n1⟩
      cases hs : (crdSend e0.ctx).2 with
      | none =>
        simp only [hs, Option.isSome_none, Option.getD_none]
        simp only [seval, go_sem]
        ((try simp only [seval, go_sem]); repeat ((first | with_reducible refine vsI.id ?_ | with_reducible refine vcI_cond ?_); (try simp only [seval, go_sem])))
        (refine FinV.tf (Tf.pack 999 [10, 11, 20, 21, 22, 23, 30, 31, 32, 33, 40, 41, 50, 51] (by simp only [popL, look, del, Nat.reduceEqDiff, reduceCtorEq, if_true, if_false, reduceIte, Nat.succ_ne_self]; exact rfl) (by simp only [look, Nat.reduceEqDiff, reduceCtorEq, if_true, if_false, reduceIte])) ?_); dsimp only
        (((try simp only [seval, go_sem]); repeat ((first | with_reducible refine vsI.id ?_ | with_reducible refine vcI_cond ?_); (try simp only [seval, go_sem]))); refine FinV.own 999 rfl ?_; simp only [finE, finS, gt, look, SV.toV, SC.toV, allV, tupV, List.map_cons, List.map_nil, List.length_cons, List.length_nil, Nat.reduceAdd, Nat.reduceEqDiff, reduceCtorEq, if_true, if_false, reduceIte, Nat.succ_ne_self, true_and, List.getElem?_cons_zero, Nat.zero_add, Nat.add_zero])
        exact ⟨_, _, n0, n1, { m with m0 := { m.m0 with cA := A3, cC := k3 } }, rfl, rfl, rfl, rfl, rfl, hR2⟩
      | some f =>
        obtain ⟨hf, hfl⟩ := crdSend_frm hI.ctx hs
        simp only [hs, Option.isSome_some, Option.getD_some] at hex hrx hkx ⊢
        simp only [seval, go_sem]
        ((try simp only [seval, go_sem]); repeat ((first | with_reducible refine vsI.id ?_ | with_reducible refine vcI_cond ?_); (try simp only [seval, go_sem])))
        simp only [wr10]
        (refine callT.tf (Tf.pack 999 [10, 11, 20, 21, 22, 23, 30, 31, 32, 33, 40, 41, 50, 51] (by simp only [popL, look, del, Nat.reduceEqDiff, reduceCtorEq, if_true, if_false, reduceIte, Nat.succ_ne_self]; exact rfl) (by simp only [look, Nat.reduceEqDiff, reduceCtorEq, if_true, if_false, reduceIte])) ?_); dsimp only
        (try with_reducible refine callM.toT ?_); refine callW 999 (l9way1 c link { e0 with ctx := (crdSend e0.ctx).1 } e1 n0 n1 { m with m0 := { m.m0 with cA := A3, cC := k3 } } f (.slice Ax f.data.length kx) z1 hR2 (by omega) hf ⟨Ax, kx, csx, rfl, hkx, hex, hrx⟩ (by omega)) rfl rfl rfl rfl ?_; rintro v z2 A' hz2 ⟨f0, f1, g0, g1, m', hw1, hw2, hw3, rfl, rfl, hR3⟩; (try simp only [seval, go_sem]); ((try simp only [seval, go_sem]); repeat ((first | with_reducible refine vsI.id ?_ | with_reducible refine vcI_cond ?_); (try simp only [seval, go_sem])))
        (((try simp only [seval, go_sem]); repeat ((first | with_reducible refine vsI.id ?_ | with_reducible refine vcI_cond ?_); (try simp only [seval, go_sem]))); refine FinV.own 999 rfl ?_; simp only [finE, finS, gt, look, SV.toV, SC.toV, allV, tupV, List.map_cons, List.map_nil, List.length_cons, List.length_nil, Nat.reduceAdd, Nat.reduceEqDiff, reduceCtorEq, if_true, if_false, reduceIte, Nat.succ_ne_self, true_and, List.getElem?_cons_zero, Nat.zero_add, Nat.add_zero])
        exact ⟨f0, f1, g0, g1, m', hw1, hw2, hw3, rfl, rfl, hR3⟩
theorem l9send_c1 (c : Cfg) (link : Int) (e0 e1 : End) (n0 n1 : List Msg) (m : WM) (z : Zc) (hR : WldR z e0 e1 n0 n1 m) (hI : EndI c e1) (hm : c.mode = 2) (h30 : n0.length ≤ 30) :
    Spec Tryz.prog 87 [wldV c link m, .int .i64 1] z (wldA e0 e1 n0 n1 m) (WldH c (if n0.length < 30 then sayO ⟨c, [e0, { e1 with ctx := (crdSend e1.ctx).1 }], [n0, n1], link⟩ 1 (crdSend e1.ctx).2 else ⟨c, [e0, e1], [n0, n1], link⟩)) := by
  have hp8 := hI.ctx.small
  have hq24 := hI.ctx.queue
  (refine spec_enterL [10, 11, 20, 21, 22, 23, 30, 31, 32, 33, 40, 41, 50, 51] Tryz.func87 ic87_ok fr87_ok Tryz.ntmps87 rfl ?_; simp only [seval, go_sem, ic87, fr87, zipL])
  refine vsI.atR 10 rfl fun hE => ?_
  have hE := hE (by omega)
  refine vsI.atR 11 rfl fun hN => ?_
  have hN := hN (by omega)
  ((try simp only [seval, go_sem]); repeat ((first | with_reducible refine vsI.id ?_ | with_reducible refine vcI_cond ?_); (try simp only [seval, go_sem])))
  ((first | refine ⟨⟨by omega, hE⟩, ?_⟩ | refine ⟨hE, ?_⟩); (try simp only [seval, go_sem]))
  (refine ldF.agg (sz := 28) _ rfl (by exact .inr ⟨10, _, _, _, _, _, rfl, fun i u hu => ends_get1 hu⟩) ?_; simp only [seval, go_sem, endC]; ((try simp only [seval, go_sem]); repeat ((first | with_reducible refine vsI.id ?_ | with_reducible refine vcI_cond ?_); (try simp only [seval, go_sem]))))
  simp only [wr11]
  simp only [seval, go_sem]
  ((first | refine ⟨⟨by omega, hN⟩, ?_⟩ | refine ⟨hN, ?_⟩); (try simp only [seval, go_sem]))
  (refine ldF.one _ (RdS.cell 11 rfl rfl) ?_; simp only [seval, go_sem]; ((try simp only [seval, go_sem]); repeat ((first | with_reducible refine vsI.id ?_ | with_reducible refine vcI_cond ?_); (try simp only [seval, go_sem]))))
  (with_reducible refine condI.split (fun hg => ?_) (fun hg => ?_) <;> (try simp only [hg]) <;> (try simp only [seval, go_sem]))
  · rw [if_neg (by simp at hg; omega)]
    ((try simp only [seval, go_sem]); repeat ((first | with_reducible refine vsI.id ?_ | with_reducible refine vcI_cond ?_); (try simp only [seval, go_sem])))
    (refine FinV.tf (Tf.pack 999 [10, 11, 20, 21, 22, 23, 30, 31, 32, 33, 40, 41, 50, 51] (by simp only [popL, look, del, Nat.reduceEqDiff, reduceCtorEq, if_true, if_false, reduceIte, Nat.succ_ne_self]; exact rfl) (by simp only [look, Nat.reduceEqDiff, reduceCtorEq, if_true, if_false, reduceIte])) ?_); dsimp only
    (((try simp only [seval, go_sem]); repeat ((first | with_reducible refine vsI.id ?_ | with_reducible refine vcI_cond ?_); (try simp only [seval, go_sem]))); refine FinV.own 999 rfl ?_; simp only [finE, finS, gt, look, SV.toV, SC.toV, allV, tupV, List.map_cons, List.map_nil, List.length_cons, List.length_nil, Nat.reduceAdd, Nat.reduceEqDiff, reduceCtorEq, if_true, if_false, reduceIte, Nat.succ_ne_self, true_and, List.getElem?_cons_zero, Nat.zero_add, Nat.add_zero])
    exact ⟨e0, e1, n0, n1, m, rfl, rfl, rfl, rfl, rfl, hR⟩
  · rw [if_pos (by simp at hg; omega)]
    ((try simp only [seval, go_sem]); repeat ((first | with_reducible refine vsI.id ?_ | with_reducible refine vcI_cond ?_); (try simp only [seval, go_sem])))
    (with_reducible refine condI.split (fun hg => ?_) (fun hg => ?_) <;> (try simp only [hg]) <;> (try simp only [seval, go_sem]))
    · exfalso
      simp [hm] at hg
    · ((try simp only [seval, go_sem]); repeat ((first | with_reducible refine vsI.id ?_ | with_reducible refine vcI_cond ?_); (try simp only [seval, go_sem])))
      have hc := crdsend_s c e1.ctx _ z hR.e1.cq (by omega) (fun p hp => by have := hp8 p hp; omega)
      simp only [crdSendG_ok hI.ctx] at hc
      (try with_reducible refine callM.toT ?_); refine callP (hc) rfl rfl ?_; rintro u z1 hz1 ⟨_, _, _, rfl, ⟨A3, k3, cs3, rfl, hk3, he3, hr3⟩, _, rfl, ⟨Ax, kx, csx, rfl, hkx, hex, hrx⟩, rfl⟩; (try simp only [seval, go_sem]); ((try simp only [seval, go_sem]); repeat ((first | with_reducible refine vsI.id ?_ | with_reducible refine vcI_cond ?_); (try simp only [seval, go_sem])))
      have hR1 : WldR z1 e0 e1 n0 n1 m := ⟨hR.e0.mono hz1, hR.e1.mono hz1, hR.n0, hR.n1⟩
      ((first | refine ⟨⟨by omega, hE⟩, ?_⟩ | refine ⟨hE, ?_⟩); (try simp only [seval, go_sem]))
      (refine stoV_row 10 rfl rfl rfl rfl rfl rfl rfl (by rw [endsC_len]; simp) ?_; simp only [seval, go_sem, ends_ctx1]; ((try simp only [seval, go_sem]); repeat ((first | with_reducible refine vsI.id ?_ | with_reducible refine vcI_cond ?_); (try simp only [seval, go_sem]))))
      have hR2 : WldR z1 e0 { e1 with ctx := (crdSend e1.ctx).1 } n0 n1 { m with m1 := { m.m1 with cA := A3, cC := k3 } } := ⟨hR1.e0, { hR1.e1 with cq := ⟨_, _, _, rfl, hk3, he3, hr3⟩ }, hR.n0, hR.n1⟩
      cases hs : (crdSend e1.ctx).2 with
      | none =>
        simp only [hs, Option.isSome_none, Option.getD_none]
        simp only [seval, go_sem]
        ((try simp only [seval, go_sem]); repeat ((first | with_reducible refine vsI.id ?_ | with_reducible refine vcI_cond ?_); (try simp only [seval, go_sem])))
        (refine FinV.tf (Tf.pack 999 [10, 11, 20, 21, 22, 23, 30, 31, 32, 33, 40, 41, 50, 51] (by simp only [popL, look, del, Nat.reduceEqDiff, reduceCtorEq, if_true, if_false, reduceIte, Nat.succ_ne_self]; exact rfl) (by simp only [look, Nat.reduceEqDiff, reduceCtorEq, if_true, if_false, reduceIte])) ?_); dsimp only
        (((try simp only [seval, go_sem]); repeat ((first | with_reducible refine vsI.id ?_ | with_reducible refine vcI_cond ?_); (try simp only [seval, go_sem]))); refine FinV.own 999 rfl ?_; simp only [finE, finS, gt, look, SV.toV, SC.toV, allV, tupV, List.map_cons, List.map_nil, List.length_cons, List.length_nil, Nat.reduceAdd, Nat.reduceEqDiff, reduceCtorEq, if_true, if_false, reduceIte, Nat.succ_ne_self, true_and, List.getElem?_cons_zero, Nat.zero_add, Nat.add_zero])
        exact ⟨_, _, n0, n1, { m with m1 := { m.m1 with cA := A3, cC := k3 } }, rfl, rfl, rfl, rfl, rfl, hR2⟩
      | some f =>
        obtain ⟨hf, hfl⟩ := crdSend_frm hI.ctx hs
        simp only [hs, Option.isSome_some, Option.getD_some] at hex hrx hkx ⊢
        simp only [seval, go_sem]
        ((try simp only [seval, go_sem]); repeat ((first | with_reducible refine vsI.id ?_ | with_reducible refine vcI_cond ?_); (try simp only [seval, go_sem])))
        simp only [wr11]
        (refine callT.tf (Tf.pack 999 [10, 11, 20, 21, 22, 23, 30, 31, 32, 33, 40, 41, 50, 51] (by simp only [popL, look, del, Nat.reduceEqDiff, reduceCtorEq, if_true, if_false, reduceIte, Nat.succ_ne_self]; exact rfl) (by simp only [look, Nat.reduceEqDiff, reduceCtorEq, if_true, if_false, reduceIte])) ?_); dsimp only
        (try with_reducible refine callM.toT ?_); refine callW 999 (l9way0 c link e0 { e1 with ctx := (crdSend e1.ctx).1 } n0 n1 { m with m1 := { m.m1 with cA := A3, cC := k3 } } f (.slice Ax f.data.length kx) z1 hR2 (by omega) hf ⟨Ax, kx, csx, rfl, hkx, hex, hrx⟩ (by omega)) rfl rfl rfl rfl ?_; rintro v z2 A' hz2 ⟨f0, f1, g0, g1, m', hw1, hw2, hw3, rfl, rfl, hR3⟩; (try simp only [seval, go_sem]); ((try simp only [seval, go_sem]); repeat ((first | with_reducible refine vsI.id ?_ | with_reducible refine vcI_cond ?_); (try simp only [seval, go_sem])))
        (((try simp only [seval, go_sem]); repeat ((first | with_reducible refine vsI.id ?_ | with_reducible refine vcI_cond ?_); (try simp only [seval, go_sem]))); refine FinV.own 999 rfl ?_; simp only [finE, finS, gt, look, SV.toV, SC.toV, allV, tupV, List.map_cons, List.map_nil, List.length_cons, List.length_nil, Nat.reduceAdd, Nat.reduceEqDiff, reduceCtorEq, if_true, if_false, reduceIte, Nat.succ_ne_self, true_and, List.getElem?_cons_zero, Nat.zero_add, Nat.add_zero])
        exact ⟨f0, f1, g0, g1, m', hw1, hw2, hw3, rfl, rfl, hR3⟩
abbrev vEvt (e : Evt) (v : Value) : Value := .agg #[.int .i64 e.kind, .int .i64 e.who, .int .i64 e.at_, .int .i64 e.v, v]
theorem l9say_c0 (c : Cfg) (link : Int) (e0 e1 : End) (n0 n1 : List Msg) (m : WM) (ev : Evt) (v : Value) (z : Zc) (hv : By z ev.data v) (hR : WldR z e0 e1 n0 n1 m) (hI : EndI c e0) (hm : c.mode = 2) (h30 : n1.length ≤ 30) (hw : ev.who = 0) (hk : ev.kind = 4 ∨ ev.kind = 5 ∨ ev.kind = 6) :
    Spec Tryz.prog 89 [wldV c link m, vEvt ev v] z (wldA e0 e1 n0 n1 m) (WldH c (if ev.kind = 6 ∧ n1.length < 30 then sayO ⟨c, [{ e0 with crx := (crdGrant e0.crx).1 }, e1], [n0, n1], link⟩ 0 (crdGrant e0.crx).2 else ⟨c, [e0, e1], [n0, n1], link⟩)) := by
  obtain ⟨kind, who, at_, vv, data⟩ := ev
  dsimp only at *
  subst hw
  obtain ⟨mode, win, mps, mtu, tri⟩ := c
  dsimp only at hm
  subst hm
  obtain ⟨Av, kv, rfl, hkv, hBv, hrv⟩ := hv.form
  have hj23 := hI.crx.2.le
  (refine spec_enterL [10, 11, 20, 21, 22, 23, 30, 31, 32, 33, 40, 41, 50, 51] Tryz.func89 ic89_ok fr89_ok Tryz.ntmps89 rfl ?_; simp only [seval, go_sem, ic89, fr89, zipL])
  refine vsI.atR 10 rfl fun hE => ?_
  have hE := hE (by omega)
  refine vsI.atR 11 rfl fun hN => ?_
  have hN := hN (by omega)
  ((try simp only [seval, go_sem]); repeat ((first | with_reducible refine vsI.id ?_ | with_reducible refine vcI_cond ?_); (try simp only [seval, go_sem])))
  ((first | refine ⟨⟨by omega, hE⟩, ?_⟩ | refine ⟨hE, ?_⟩); (try simp only [seval, go_sem]))
  (refine ldF.agg (sz := 28) _ rfl (by exact .inr ⟨10, _, _, _, _, _, rfl, fun i u hu => ends_get0 hu⟩) ?_; simp only [seval, go_sem, endC]; ((try simp only [seval, go_sem]); repeat ((first | with_reducible refine vsI.id ?_ | with_reducible refine vcI_cond ?_); (try simp only [seval, go_sem]))))
  rcases hk with rfl | rfl | rfl
  · simp only [seval, go_sem]
    ((try simp only [seval, go_sem]); repeat ((first | with_reducible refine vsI.id ?_ | with_reducible refine vcI_cond ?_); (try simp only [seval, go_sem])))
    (refine FinV.tf (Tf.pack 999 [10, 11, 20, 21, 22, 23, 30, 31, 32, 33, 40, 41, 50, 51] (by simp only [popL, look, del, Nat.reduceEqDiff, reduceCtorEq, if_true, if_false, reduceIte, Nat.succ_ne_self]; exact rfl) (by simp only [look, Nat.reduceEqDiff, reduceCtorEq, if_true, if_false, reduceIte])) ?_); dsimp only
    (((try simp only [seval, go_sem]); repeat ((first | with_reducible refine vsI.id ?_ | with_reducible refine vcI_cond ?_); (try simp only [seval, go_sem]))); refine FinV.own 999 rfl ?_; simp only [finE, finS, gt, look, SV.toV, SC.toV, allV, tupV, List.map_cons, List.map_nil, List.length_cons, List.length_nil, Nat.reduceAdd, Nat.reduceEqDiff, reduceCtorEq, if_true, if_false, reduceIte, Nat.succ_ne_self, true_and, List.getElem?_cons_zero, Nat.zero_add, Nat.add_zero])
    exact ⟨e0, e1, n0, n1, m, rfl, rfl, rfl, rfl, rfl, hR⟩
  · simp only [seval, go_sem]
    ((try simp only [seval, go_sem]); repeat ((first | with_reducible refine vsI.id ?_ | with_reducible refine vcI_cond ?_); (try simp only [seval, go_sem])))
    (refine FinV.tf (Tf.pack 999 [10, 11, 20, 21, 22, 23, 30, 31, 32, 33, 40, 41, 50, 51] (by simp only [popL, look, del, Nat.reduceEqDiff, reduceCtorEq, if_true, if_false, reduceIte, Nat.succ_ne_self]; exact rfl) (by simp only [look, Nat.reduceEqDiff, reduceCtorEq, if_true, if_false, reduceIte])) ?_); dsimp only
    (((try simp only [seval, go_sem]); repeat ((first | with_reducible refine vsI.id ?_ | with_reducible refine vcI_cond ?_); (try simp only [seval, go_sem]))); refine FinV.own 999 rfl ?_; simp only [finE, finS, gt, look, SV.toV, SC.toV, allV, tupV, List.map_cons, List.map_nil, List.length_cons, List.length_nil, Nat.reduceAdd, Nat.reduceEqDiff, reduceCtorEq, if_true, if_false, reduceIte, Nat.succ_ne_self, true_and, List.getElem?_cons_zero, Nat.zero_add, Nat.add_zero])
    exact ⟨e0, e1, n0, n1, m, rfl, rfl, rfl, rfl, rfl, hR⟩
  · simp only [seval, go_sem]
    ((try simp only [seval, go_sem]); repeat ((first | with_reducible refine vsI.id ?_ | with_reducible refine vcI_cond ?_); (try simp only [seval, go_sem])))
    simp only [wr10]
    simp only [seval, go_sem]
    ((first | refine ⟨⟨by omega, hN⟩, ?_⟩ | refine ⟨hN, ?_⟩); (try simp only [seval, go_sem]))
    (refine ldF.one _ (RdS.cell 11 rfl rfl) ?_; simp only [seval, go_sem]; ((try simp only [seval, go_sem]); repeat ((first | with_reducible refine vsI.id ?_ | with_reducible refine vcI_cond ?_); (try simp only [seval, go_sem]))))
    (with_reducible refine condI.split (fun hg => ?_) (fun hg => ?_) <;> (try simp only [hg]) <;> (try simp only [seval, go_sem]))
    · have h3 : n1.length < 30 := by have := of_decide_eq_true hg; omega
      rw [if_pos h3]
      ((try simp only [seval, go_sem]); repeat ((first | with_reducible refine vsI.id ?_ | with_reducible refine vcI_cond ?_); (try simp only [seval, go_sem])))
      have hc := crdgrant_s e0.crx _ z hR.e0.kj (by omega) (by have := hI.crx.2; rcases this with h | h <;> omega)
      simp only [crdGrantG_ok hI.crx] at hc
      (try with_reducible refine callM.toT ?_); refine callP (hc) rfl rfl ?_; rintro u z1 hz1 ⟨_, _, _, rfl, ⟨A3, k3, cs3, rfl, hk3, he3, hr3⟩, _, rfl, ⟨Ax, kx, csx, rfl, hkx, hex, hrx⟩, rfl⟩; (try simp only [seval, go_sem]); ((try simp only [seval, go_sem]); repeat ((first | with_reducible refine vsI.id ?_ | with_reducible refine vcI_cond ?_); (try simp only [seval, go_sem])))
      have h3 : By z1 (crdGrant e0.crx).1.join.got (.slice A3 (crdGrant e0.crx).1.join.got.length k3) := ⟨_, _, _, rfl, hk3, he3, hr3⟩
      have hR1 : WldR z1 e0 e1 n0 n1 m := ⟨hR.e0.mono hz1, hR.e1.mono hz1, hR.n0, hR.n1⟩
      ((first | refine ⟨⟨by omega, hE⟩, ?_⟩ | refine ⟨hE, ?_⟩); (try simp only [seval, go_sem]))
      (refine stoV_row 10 rfl rfl rfl rfl rfl rfl rfl (by rw [endsC_len]; simp) ?_; simp only [seval, go_sem, ends_crx0]; ((try simp only [seval, go_sem]); repeat ((first | with_reducible refine vsI.id ?_ | with_reducible refine vcI_cond ?_); (try simp only [seval, go_sem]))))
      have hR2 : WldR z1 { e0 with crx := (crdGrant e0.crx).1 } e1 n0 n1 { m with m0 := { m.m0 with kA := A3, kC := k3 } } := ⟨{ hR1.e0 with kj := h3 }, hR1.e1, hR.n0, hR.n1⟩
      cases hs : (crdGrant e0.crx).2 with
      | none =>
        simp only [hs, Option.isSome_none, Option.getD_none]
        simp only [seval, go_sem]
        ((try simp only [seval, go_sem]); repeat ((first | with_reducible refine vsI.id ?_ | with_reducible refine vcI_cond ?_); (try simp only [seval, go_sem])))
        (refine FinV.tf (Tf.pack 999 [10, 11, 20, 21, 22, 23, 30, 31, 32, 33, 40, 41, 50, 51] (by simp only [popL, look, del, Nat.reduceEqDiff, reduceCtorEq, if_true, if_false, reduceIte, Nat.succ_ne_self]; exact rfl) (by simp only [look, Nat.reduceEqDiff, reduceCtorEq, if_true, if_false, reduceIte])) ?_); dsimp only
        (((try simp only [seval, go_sem]); repeat ((first | with_reducible refine vsI.id ?_ | with_reducible refine vcI_cond ?_); (try simp only [seval, go_sem]))); refine FinV.own 999 rfl ?_; simp only [finE, finS, gt, look, SV.toV, SC.toV, allV, tupV, List.map_cons, List.map_nil, List.length_cons, List.length_nil, Nat.reduceAdd, Nat.reduceEqDiff, reduceCtorEq, if_true, if_false, reduceIte, Nat.succ_ne_self, true_and, List.getElem?_cons_zero, Nat.zero_add, Nat.add_zero])
        exact ⟨_, _, n0, n1, { m with m0 := { m.m0 with kA := A3, kC := k3 } }, rfl, rfl, rfl, rfl, rfl, hR2⟩
      | some f =>
        obtain ⟨hf, hfl⟩ := crdGrant_frm hI.crx hs
        simp only [hs, Option.isSome_some, Option.getD_some] at hex hrx hkx ⊢
        simp only [seval, go_sem]
        ((try simp only [seval, go_sem]); repeat ((first | with_reducible refine vsI.id ?_ | with_reducible refine vcI_cond ?_); (try simp only [seval, go_sem])))
        simp only [wr10]
        (refine callT.tf (Tf.pack 999 [10, 11, 20, 21, 22, 23, 30, 31, 32, 33, 40, 41, 50, 51] (by simp only [popL, look, del, Nat.reduceEqDiff, reduceCtorEq, if_true, if_false, reduceIte, Nat.succ_ne_self]; exact rfl) (by simp only [look, Nat.reduceEqDiff, reduceCtorEq, if_true, if_false, reduceIte])) ?_); dsimp only
        (try with_reducible refine callM.toT ?_); refine callW 999 (l9way1 ⟨2, win, mps, mtu, tri⟩ link { e0 with crx := (crdGrant e0.crx).1 } e1 n0 n1 { m with m0 := { m.m0 with kA := A3, kC := k3 } } f (.slice Ax f.data.length kx) z1 hR2 (by omega) hf ⟨Ax, kx, csx, rfl, hkx, hex, hrx⟩ (by omega)) rfl rfl rfl rfl ?_; rintro v z2 A' hz2 ⟨f0, f1, g0, g1, m', hw1, hw2, hw3, rfl, rfl, hR3⟩; (try simp only [seval, go_sem]); ((try simp only [seval, go_sem]); repeat ((first | with_reducible refine vsI.id ?_ | with_reducible refine vcI_cond ?_); (try simp only [seval, go_sem])))
        (((try simp only [seval, go_sem]); repeat ((first | with_reducible refine vsI.id ?_ | with_reducible refine vcI_cond ?_); (try simp only [seval, go_sem]))); refine FinV.own 999 rfl ?_; simp only [finE, finS, gt, look, SV.toV, SC.toV, allV, tupV, List.map_cons, List.map_nil, List.length_cons, List.length_nil, Nat.reduceAdd, Nat.reduceEqDiff, reduceCtorEq, if_true, if_false, reduceIte, Nat.succ_ne_self, true_and, List.getElem?_cons_zero, Nat.zero_add, Nat.add_zero])
        exact ⟨f0, f1, g0, g1, m', hw1, hw2, hw3, rfl, rfl, hR3⟩
    · have h3 : ¬ n1.length < 30 := by have := of_decide_eq_false hg; omega
      rw [if_neg h3]
      ((try simp only [seval, go_sem]); repeat ((first | with_reducible refine vsI.id ?_ | with_reducible refine vcI_cond ?_); (try simp only [seval, go_sem])))
      (refine FinV.tf (Tf.pack 999 [10, 11, 20, 21, 22, 23, 30, 31, 32, 33, 40, 41, 50, 51] (by simp only [popL, look, del, Nat.reduceEqDiff, reduceCtorEq, if_true, if_false, reduceIte, Nat.succ_ne_self]; exact rfl) (by simp only [look, Nat.reduceEqDiff, reduceCtorEq, if_true, if_false, reduceIte])) ?_); dsimp only
      (((try simp only [seval, go_sem]); repeat ((first | with_reducible refine vsI.id ?_ | with_reducible refine vcI_cond ?_); (try simp only [seval, go_sem]))); refine FinV.own 999 rfl ?_; simp only [finE, finS, gt, look, SV.toV, SC.toV, allV, tupV, List.map_cons, List.map_nil, List.length_cons, List.length_nil, Nat.reduceAdd, Nat.reduceEqDiff, reduceCtorEq, if_true, if_false, reduceIte, Nat.succ_ne_self, true_and, List.getElem?_cons_zero, Nat.zero_add, Nat.add_zero])
      exact ⟨e0, e1, n0, n1, m, rfl, rfl, rfl, rfl, rfl, hR⟩
theorem l9say_c1 (c : Cfg) (link : Int) (e0 e1 : End) (n0 n1 : List Msg) (m : WM) (ev : Evt) (v : Value) (z : Zc) (hv : By z ev.data v) (hR : WldR z e0 e1 n0 n1 m) (hI : EndI c e1) (hm : c.mode = 2) (h30 : n0.length ≤ 30) (hw : ev.who = 1) (hk : ev.kind = 4 ∨ ev.kind = 5 ∨ ev.kind = 6) :
    Spec Tryz.prog 89 [wldV c link m, vEvt ev v] z (wldA e0 e1 n0 n1 m) (WldH c (if ev.kind = 6 ∧ n0.length < 30 then sayO ⟨c, [e0, { e1 with crx := (crdGrant e1.crx).1 }], [n0, n1], link⟩ 1 (crdGrant e1.crx).2 else ⟨c, [e0, e1], [n0, n1], link⟩)) := by
  obtain ⟨kind, who, at_, vv, data⟩ := ev
  dsimp only at *
  subst hw
  obtain ⟨mode, win, mps, mtu, tri⟩ := c
  dsimp only at hm
  subst hm
  obtain ⟨Av, kv, rfl, hkv, hBv, hrv⟩ := hv.form
  have hj23 := hI.crx.2.le
  (refine spec_enterL [10, 11, 20, 21, 22, 23, 30, 31, 32, 33, 40, 41, 50, 51] Tryz.func89 ic89_ok fr89_ok Tryz.ntmps89 rfl ?_; simp only [seval, go_sem, ic89, fr89, zipL])
  refine vsI.atR 10 rfl fun hE => ?_
  have hE := hE (by omega)
  refine vsI.atR 11 rfl fun hN => ?_
  have hN := hN (by omega)
  ((try simp only [seval, go_sem]); repeat ((first | with_reducible refine vsI.id ?_ | with_reducible refine vcI_cond ?_); (try simp only [seval, go_sem])))
  ((first | refine ⟨⟨by omega, hE⟩, ?_⟩ | refine ⟨hE, ?_⟩); (try simp only [seval, go_sem]))
  (refine ldF.agg (sz := 28) _ rfl (by exact .inr ⟨10, _, _, _, _, _, rfl, fun i u hu => ends_get1 hu⟩) ?_; simp only [seval, go_sem, endC]; ((try simp only [seval, go_sem]); repeat ((first | with_reducible refine vsI.id ?_ | with_reducible refine vcI_cond ?_); (try simp only [seval, go_sem]))))
  rcases hk with rfl | rfl | rfl
  · simp only [seval, go_sem]
    ((try simp only [seval, go_sem]); repeat ((first | with_reducible refine vsI.id ?_ | with_reducible refine vcI_cond ?_); (try simp only [seval, go_sem])))
    (refine FinV.tf (Tf.pack 999 [10, 11, 20, 21, 22, 23, 30, 31, 32, 33, 40, 41, 50, 51] (by simp only [popL, look, del, Nat.reduceEqDiff, reduceCtorEq, if_true, if_false, reduceIte, Nat.succ_ne_self]; exact rfl) (by simp only [look, Nat.reduceEqDiff, reduceCtorEq, if_true, if_false, reduceIte])) ?_); dsimp only
    (((try simp only [seval, go_sem]); repeat ((first | with_reducible refine vsI.id ?_ | with_reducible refine vcI_cond ?_); (try simp only [seval, go_sem]))); refine FinV.own 999 rfl ?_; simp only [finE, finS, gt, look, SV.toV, SC.toV, allV, tupV, List.map_cons, List.map_nil, List.length_cons, List.length_nil, Nat.reduceAdd, Nat.reduceEqDiff, reduceCtorEq, if_true, if_false, reduceIte, Nat.succ_ne_self, true_and, List.getElem?_cons_zero, Nat.zero_add, Nat.add_zero])
    exact ⟨e0, e1, n0, n1, m, rfl, rfl, rfl, rfl, rfl, hR⟩
  · simp only [seval, go_sem]
    ((try simp only [seval, go_sem]); repeat ((first | with_reducible refine vsI.id ?_ | with_reducible refine vcI_cond ?_); (try simp only [seval, go_sem])))
    (refine FinV.tf (Tf.pack 999 [10, 11, 20, 21, 22, 23, 30, 31, 32, 33, 40, 41, 50, 51] (by simp only [popL, look, del, Nat.reduceEqDiff, reduceCtorEq, if_true, if_false, reduceIte, Nat.succ_ne_self]; exact rfl) (by simp only [look, Nat.reduceEqDiff, reduceCtorEq, if_true, if_false, reduceIte])) ?_); dsimp only
    (((try simp only [seval, go_sem]); repeat ((first | with_reducible refine vsI.id ?_ | with_reducible refine vcI_cond ?_); (try simp only [seval, go_sem]))); refine FinV.own 999 rfl ?_; simp only [finE, finS, gt, look, SV.toV, SC.toV, allV, tupV, List.map_cons, List.map_nil, List.length_cons, List.length_nil, Nat.reduceAdd, Nat.reduceEqDiff, reduceCtorEq, if_true, if_false, reduceIte, Nat.succ_ne_self, true_and, List.getElem?_cons_zero, Nat.zero_add, Nat.add_zero])
    exact ⟨e0, e1, n0, n1, m, rfl, rfl, rfl, rfl, rfl, hR⟩
  · simp only [seval, go_sem]
    ((try simp only [seval, go_sem]); repeat ((first | with_reducible refine vsI.id ?_ | with_reducible refine vcI_cond ?_); (try simp only [seval, go_sem])))
    simp only [wr11]
    simp only [seval, go_sem]
    ((first | refine ⟨⟨by omega, hN⟩, ?_⟩ | refine ⟨hN, ?_⟩); (try simp only [seval, go_sem]))
    (refine ldF.one _ (RdS.cell 11 rfl rfl) ?_; simp only [seval, go_sem]; ((try simp only [seval, go_sem]); repeat ((first | with_reducible refine vsI.id ?_ | with_reducible refine vcI_cond ?_); (try simp only [seval, go_sem]))))
    (with_reducible refine condI.split (fun hg => ?_) (fun hg => ?_) <;> (try simp only [hg]) <;> (try simp only [seval, go_sem]))
    · have h3 : n0.length < 30 := by have := of_decide_eq_true hg; omega
      rw [if_pos h3]
      ((try simp only [seval, go_sem]); repeat ((first | with_reducible refine vsI.id ?_ | with_reducible refine vcI_cond ?_); (try simp only [seval, go_sem])))
      have hc := crdgrant_s e1.crx _ z hR.e1.kj (by omega) (by have := hI.crx.2; rcases this with h | h <;> omega)
      simp only [crdGrantG_ok hI.crx] at hc
      (try with_reducible refine callM.toT ?_); refine callP (hc) rfl rfl ?_; rintro u z1 hz1 ⟨_, _, _, rfl, ⟨A3, k3, cs3, rfl, hk3, he3, hr3⟩, _, rfl, ⟨Ax, kx, csx, rfl, hkx, hex, hrx⟩, rfl⟩; (try simp only [seval, go_sem]); ((try simp only [seval, go_sem]); repeat ((first | with_reducible refine vsI.id ?_ | with_reducible refine vcI_cond ?_); (try simp only [seval, go_sem])))
      have h3 : By z1 (crdGrant e1.crx).1.join.got (.slice A3 (crdGrant e1.crx).1.join.got.length k3) := ⟨_, _, _, rfl, hk3, he3, hr3⟩
      have hR1 : WldR z1 e0 e1 n0 n1 m := ⟨hR.e0.mono hz1, hR.e1.mono hz1, hR.n0, hR.n1⟩
      ((first | refine ⟨⟨by omega, hE⟩, ?_⟩ | refine ⟨hE, ?_⟩); (try simp only [seval, go_sem]))
      (refine stoV_row 10 rfl rfl rfl rfl rfl rfl rfl (by rw [endsC_len]; simp) ?_; simp only [seval, go_sem, ends_crx1]; ((try simp only [seval, go_sem]); repeat ((first | with_reducible refine vsI.id ?_ | with_reducible refine vcI_cond ?_); (try simp only [seval, go_sem]))))
      have hR2 : WldR z1 e0 { e1 with crx := (crdGrant e1.crx).1 } n0 n1 { m with m1 := { m.m1 with kA := A3, kC := k3 } } := ⟨hR1.e0, { hR1.e1 with kj := h3 }, hR.n0, hR.n1⟩
      cases hs : (crdGrant e1.crx).2 with
      | none =>
        simp only [hs, Option.isSome_none, Option.getD_none]
        simp only [seval, go_sem]
        ((try simp only [seval, go_sem]); repeat ((first | with_reducible refine vsI.id ?_ | with_reducible refine vcI_cond ?_); (try simp only [seval, go_sem])))
        (refine FinV.tf (Tf.pack 999 [10, 11, 20, 21, 22, 23, 30, 31, 32, 33, 40, 41, 50, 51] (by simp only [popL, look, del, Nat.reduceEqDiff, reduceCtorEq, if_true, if_false, reduceIte, Nat.succ_ne_self]; exact rfl) (by simp only [look, Nat.reduceEqDiff, reduceCtorEq, if_true, if_false, reduceIte])) ?_); dsimp only
        (((try simp only [seval, go_sem]); repeat ((first | with_reducible refine vsI.id ?_ | with_reducible refine vcI_cond ?_); (try simp only [seval, go_sem]))); refine FinV.own 999 rfl ?_; simp only [finE, finS, gt, look, SV.toV, SC.toV, allV, tupV, List.map_cons, List.map_nil, List.length_cons, List.length_nil, Nat.reduceAdd, Nat.reduceEqDiff, reduceCtorEq, if_true, if_false, reduceIte, Nat.succ_ne_self, true_and, List.getElem?_cons_zero, Nat.zero_add, Nat.add_zero])
        exact ⟨_, _, n0, n1, { m with m1 := { m.m1 with kA := A3, kC := k3 } }, rfl, rfl, rfl, rfl, rfl, hR2⟩
      | some f =>
        obtain ⟨hf, hfl⟩ := crdGrant_frm hI.crx hs
        simp only [hs, Option.isSome_some, Option.getD_some] at hex hrx hkx ⊢
        simp only [seval, go_sem]
        ((try simp only [seval, go_sem]); repeat ((first | with_reducible refine vsI.id ?_ | with_reducible refine vcI_cond ?_); (try simp only [seval, go_sem])))
        simp only [wr11]
        (refine callT.tf (Tf.pack 999 [10, 11, 20, 21, 22, 23, 30, 31, 32, 33, 40, 41, 50, 51] (by simp only [popL, look, del, Nat.reduceEqDiff, reduceCtorEq, if_true, if_false, reduceIte, Nat.succ_ne_self]; exact rfl) (by simp only [look, Nat.reduceEqDiff, reduceCtorEq, if_true, if_false, reduceIte])) ?_); dsimp only
        (try with_reducible refine callM.toT ?_); refine callW 999 (l9way0 ⟨2, win, mps, mtu, tri⟩ link e0 { e1 with crx := (crdGrant e1.crx).1 } n0 n1 { m with m1 := { m.m1 with kA := A3, kC := k3 } } f (.slice Ax f.data.length kx) z1 hR2 (by omega) hf ⟨Ax, kx, csx, rfl, hkx, hex, hrx⟩ (by omega)) rfl rfl rfl rfl ?_; rintro v z2 A' hz2 ⟨f0, f1, g0, g1, m', hw1, hw2, hw3, rfl, rfl, hR3⟩; (try simp only [seval, go_sem]); ((try simp only [seval, go_sem]); repeat ((first | with_reducible refine vsI.id ?_ | with_reducible refine vcI_cond ?_); (try simp only [seval, go_sem])))
        (((try simp only [seval, go_sem]); repeat ((first | with_reducible refine vsI.id ?_ | with_reducible refine vcI_cond ?_); (try simp only [seval, go_sem]))); refine FinV.own 999 rfl ?_; simp only [finE, finS, gt, look, SV.toV, SC.toV, allV, tupV, List.map_cons, List.map_nil, List.length_cons, List.length_nil, Nat.reduceAdd, Nat.reduceEqDiff, reduceCtorEq, if_true, if_false, reduceIte, Nat.succ_ne_self, true_and, List.getElem?_cons_zero, Nat.zero_add, Nat.add_zero])
        exact ⟨f0, f1, g0, g1, m', hw1, hw2, hw3, rfl, rfl, hR3⟩
    · have h3 : ¬ n0.length < 30 := by have := of_decide_eq_false hg; omega
      rw [if_neg h3]
      ((try simp only [seval, go_sem]); repeat ((first | with_reducible refine vsI.id ?_ | with_reducible refine vcI_cond ?_); (try simp only [seval, go_sem])))
      (refine FinV.tf (Tf.pack 999 [10, 11, 20, 21, 22, 23, 30, 31, 32, 33, 40, 41, 50, 51] (by simp only [popL, look, del, Nat.reduceEqDiff, reduceCtorEq, if_true, if_false, reduceIte, Nat.succ_ne_self]; exact rfl) (by simp only [look, Nat.reduceEqDiff, reduceCtorEq, if_true, if_false, reduceIte])) ?_); dsimp only
      (((try simp only [seval, go_sem]); repeat ((first | with_reducible refine vsI.id ?_ | with_reducible refine vcI_cond ?_); (try simp only [seval, go_sem]))); refine FinV.own 999 rfl ?_; simp only [finE, finS, gt, look, SV.toV, SC.toV, allV, tupV, List.map_cons, List.map_nil, List.length_cons, List.length_nil, Nat.reduceAdd, Nat.reduceEqDiff, reduceCtorEq, if_true, if_false, reduceIte, Nat.succ_ne_self, true_and, List.getElem?_cons_zero, Nat.zero_add, Nat.add_zero])
      exact ⟨e0, e1, n0, n1, m, rfl, rfl, rfl, rfl, rfl, hR⟩
end Go.Proofs.YtpjaidjnamngaaaGreat
