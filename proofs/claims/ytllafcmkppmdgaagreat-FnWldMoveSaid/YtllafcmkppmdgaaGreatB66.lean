import Derived.Test.YtllafcmkppmdgaaGreatB6
import Derived.Test.YtllafcmkppmdgaaGreatProg
import Derived.Test.YtllafcmkppmdgaaGreatB13
import Derived.Test.YtllafcmkppmdgaaGreatB12
import Derived.Test.YtllafcmkppmdgaaGreatB22
import Derived.Laws.StructEq
import Derived.ChangeKeysEq
import Derived.Test.YtllafcmkppmdgaaGreatB21
import Derived.Test.YtllafcmkppmdgaaGreatRows
import Derived.WalkKit
import Derived.ProofKit
import Derived.OpenShut
import Derived.ShutString
import Derived.ChangeOld
import Derived.Below
import Derived.SizedLaws
namespace Go.Proofs.YtllafcmkppmdgaaGreat
open Go.RowKit
set_option linter.unusedVariables false
set_option linter.unusedSimpArgs false
set_option maxRecDepth 100000
set_option maxHeartbeats 4000000
set_option linter.defProp false
def k21 := mkK [(.t 4)] [] [] Tryz.func21 Tryz.ntmps21 rfl
def k75 := mkK [(.t 4)] [] [] Tryz.func75 Tryz.ntmps75 rfl
def k27 := mkK [(.t 4)] [] [(6,[],.l [0,5,8,12,17,20,25,28,32,37,42,44]),(11,[],.l [0,5,8,12,17,20,25,28,32,37,42,44])] Tryz.func27 Tryz.ntmps27 rfl
def k26 := mkK [(.t 4)] [] [] Tryz.func26 Tryz.ntmps26 rfl
def k28 := mkK [(.t 4)] [] [(6,[],.l [0,4,8,12,17,20,24,28,32,37,40,44,48,52,56,60,65,68,72,76,80,85,90,92,96])] Tryz.func28 Tryz.ntmps28 rfl
def k22 := mkK [(.t 4)] [] [] Tryz.func22 Tryz.ntmps22 rfl
def k25 := mkK [(.t 4)] [] [] Tryz.func25 Tryz.ntmps25 rfl
def k23 := mkK [(.t 4)] [] [] Tryz.func23 Tryz.ntmps23 rfl
def k24 := mkK [(.t 4)] [] [] Tryz.func24 Tryz.ntmps24 rfl
def k47 := mkK [(.t 4)] [] [(6,[],.l [0,4,8,13,16,20,24,29,34,36])] Tryz.func47 Tryz.ntmps47 rfl
def k48 := mkK [(.t 4)] [] [] Tryz.func48 Tryz.ntmps48 rfl
def k20 := mkK [(.c 4 8 true)] [] [] Tryz.func20 Tryz.ntmps20 rfl
theorem lipart (p : Part) (v u : Value) (z : Zc) (hv : By z p.data v) (hu : By z p.data u) (hl : p.data.length ≤ 100) : PSpec Tryz.prog 75 [vPart p v, vPart p u] z fun w z' => w = .bool true ∧ z = z' := by
 have hc := libytes p.data p.data v u z hv hu (by omega) (by omega)
 obtain ⟨A, c, rfl, _, _, _⟩ := hv.form
 obtain ⟨A2, c2, rfl, _, _, _⟩ := hu.form
 refine eP k75 ?_
 refine gO ?_
 repeat (simp only [seval, go_sem, beq_self_eq_true]; refine gO ?_)
 refine tT ?_; refine callP (hc) rfl rfl ?_; rintro _ _ - ⟨rfl, rfl⟩; refine gO ?_
 try simp only [seval, go_sem, decide_true]
 (first|refine fN ?_|exact fZ)
theorem liparts (l : List Part) (v u : Value) (z : Zc) (hv : Sl pRep z l v) (hu : Sl pRep z l u) (hl : l.length ≤ 1000) (hp : ∀ p ∈ l, p.data.length ≤ 100) : PSpec Tryz.prog 47 [v, u] z fun w z' => w = .bool true ∧ z = z' := by
 obtain ⟨A, c, cs, rfl, hc, he, hr⟩ := hv
 obtain ⟨A2, c2, cs2, rfl, hc2, he2, hr2⟩ := hu
 have dn : ((l.length : Int) != (l.length : Int)) = false := bne_self_eq_false _
 refine eP k47 ?_
 refine gO ?_
 repeat (simp only [seval, go_sem, dn]; refine gO ?_)
 refine loop_upd (ι := Nat) (n := 0) (fun i => i ≤ l.length) (fun i => [(5, .c (.v (.int .i64 i)))]) (fun _ => []) (fun _ => z) (fun i => l.length - i) 0 (by omega) (by (simp only [wrI, wrR, anyL, st, List.append_nil, List.nil_append, List.cons_append]); exact rfl) ?_ ?_
 ·exact lE
 ·intro i hi
  refine gO ?_
  (with_reducible refine condI.split (fun hg => ?_) (fun hg => ?_) <;> (try simp only [hg]) <;> (try simp only [seval, go_sem]))
  ·have hi' : i < l.length := by have := of_decide_eq_true hg; omega
   obtain ⟨x, hx⟩ : ∃ x, l[i]? = some x := ⟨_, List.getElem?_eq_getElem hi'⟩
   obtain ⟨c1, ⟨v, rfl, hb⟩, hr1⟩ := he.at hr hx
   obtain ⟨c3, ⟨u, rfl, hb2⟩, hr3⟩ := he2.at hr2 hx
   have h1 := he.isAt hr (by decide) hi'
   have h2 := he2.isAt hr2 (by decide) hi'
   obtain ⟨A3, k3, rfl, _, _, _⟩ := hb.form
   obtain ⟨A4, k4, rfl, _, _, _⟩ := hb2.form
   refine gO ?_
   (refine ⟨⟨by omega, by omega, h1⟩, ?_⟩; (try simp only [seval, go_sem]))
   (refine ldF.agg _ rfl (by first | exact .inl hr1 | exact hr1) ?_; (try simp only [seval, go_sem]))
   (refine ⟨⟨by omega, by omega, h2⟩, ?_⟩; (try simp only [seval, go_sem]))
   (refine ldF.agg _ rfl (by first | exact .inl hr3 | exact hr3) ?_; (try simp only [seval, go_sem]))
   refine tT ?_; refine callP (lipart x _ _ z hb hb2 (hp x (List.mem_of_getElem? hx))) rfl rfl ?_; rintro _ _ - ⟨rfl, rfl⟩; refine gO ?_
   refine gO ?_
   refine ⟨i + 1, by omega, by omega, ?_⟩
   exact lE
  ·refine gO ?_
   (first|refine fN ?_|exact fZ)
theorem litx (t : Tx) (f q f' q' : Value) (z : Zc) (h1 : Sl pRep z t.flight f) (h2 : Sl pRep z t.queue q) (h3 : Sl pRep z t.flight f') (h4 : Sl pRep z t.queue q') (l1 : t.flight.length ≤ 1000) (l2 : t.queue.length ≤ 1000) (p1 : ∀ p ∈ t.flight, p.data.length ≤ 100) (p2 : ∀ p ∈ t.queue, p.data.length ≤ 100) : PSpec Tryz.prog 22 [vTx t f q, vTx t f' q'] z fun w z' => w = .bool true ∧ z = z' := by
 have c1 := liparts t.flight f f' z h1 h3 l1 p1
 have c2 := liparts t.queue q q' z h2 h4 l2 p2
 obtain ⟨A1, k1, _, rfl, _⟩ := h1
 obtain ⟨A2, k2, _, rfl, _⟩ := h2
 obtain ⟨A3, k3, _, rfl, _⟩ := h3
 obtain ⟨A4, k4, _, rfl, _⟩ := h4
 refine eP k22 ?_
 refine gO ?_
 repeat (simp only [seval, go_sem, beq_self_eq_true, decide_true]; refine gO ?_)
 refine tT ?_; refine callP (c1) rfl rfl ?_; rintro _ _ - ⟨rfl, rfl⟩; refine gO ?_
 repeat (simp only [seval, go_sem, beq_self_eq_true, decide_true]; refine gO ?_)
 refine tT ?_; refine callP (c2) rfl rfl ?_; rintro _ _ - ⟨rfl, rfl⟩; refine gO ?_
 repeat (simp only [seval, go_sem, beq_self_eq_true, decide_true]; refine gO ?_)
 (first|refine fN ?_|exact fZ)
theorem lijoin (j : Join) (v u : Value) (z : Zc) (hv : By z j.got v) (hu : By z j.got u) (hl : j.got.length ≤ 100) : PSpec Tryz.prog 48 [vJoin j v, vJoin j u] z fun w z' => w = .bool true ∧ z = z' := by
 have hc := libytes j.got j.got v u z hv hu (by omega) (by omega)
 obtain ⟨A, c, rfl, _, _, _⟩ := hv.form
 obtain ⟨A2, c2, rfl, _, _, _⟩ := hu.form
 refine eP k48 ?_
 refine gO ?_
 repeat (simp only [seval, go_sem, beq_self_eq_true]; refine gO ?_)
 refine tT ?_; refine callP (hc) rfl rfl ?_; rintro _ _ - ⟨rfl, rfl⟩; refine gO ?_
 try simp only [seval, go_sem, decide_true]
 (first|refine fN ?_|exact fZ)
theorem lirx (r : Rx) (v u : Value) (z : Zc) (hv : By z r.join.got v) (hu : By z r.join.got u) (hl : r.join.got.length ≤ 100) : PSpec Tryz.prog 25 [vRx r v, vRx r u] z fun w z' => w = .bool true ∧ z = z' := by
 have hc := lijoin r.join v u z hv hu hl
 obtain ⟨A, c, rfl, _, _, _⟩ := hv.form
 obtain ⟨A2, c2, rfl, _, _, _⟩ := hu.form
 refine eP k25 ?_
 refine gO ?_
 repeat (simp only [seval, go_sem, beq_self_eq_true, decide_true]; refine gO ?_)
 refine tT ?_; refine callP (hc) rfl rfl ?_; rintro _ _ - ⟨rfl, rfl⟩; refine gO ?_
 repeat (simp only [seval, go_sem, beq_self_eq_true, decide_true]; refine gO ?_)
 (first|refine fN ?_|exact fZ)
theorem licrx (r : CRx) (v u : Value) (z : Zc) (hv : By z r.join.got v) (hu : By z r.join.got u) (hl : r.join.got.length ≤ 100) : PSpec Tryz.prog 24 [vCRx r v, vCRx r u] z fun w z' => w = .bool true ∧ z = z' := by
 have hc := lijoin r.join v u z hv hu hl
 obtain ⟨A, c, rfl, _, _, _⟩ := hv.form
 obtain ⟨A2, c2, rfl, _, _, _⟩ := hu.form
 refine eP k24 ?_
 refine gO ?_
 repeat (simp only [seval, go_sem, beq_self_eq_true, decide_true]; refine gO ?_)
 refine tT ?_; refine callP (hc) rfl rfl ?_; rintro _ _ - ⟨rfl, rfl⟩; refine gO ?_
 repeat (simp only [seval, go_sem, beq_self_eq_true, decide_true]; refine gO ?_)
 (first|refine fN ?_|exact fZ)
theorem lictx (t : CTx) (v u : Value) (z : Zc) (hv : Sl pRep z t.queue v) (hu : Sl pRep z t.queue u) (hl : t.queue.length ≤ 1000) (hp : ∀ p ∈ t.queue, p.data.length ≤ 100) : PSpec Tryz.prog 23 [vCTx t v, vCTx t u] z fun w z' => w = .bool true ∧ z = z' := by
 have hc := liparts t.queue v u z hv hu hl hp
 obtain ⟨A1, k1, _, rfl, _⟩ := hv
 obtain ⟨A2, k2, _, rfl, _⟩ := hu
 refine eP k23 ?_
 refine gO ?_
 repeat (simp only [seval, go_sem, beq_self_eq_true, decide_true]; refine gO ?_)
 refine tT ?_; refine callP (hc) rfl rfl ?_; rintro _ _ - ⟨rfl, rfl⟩; refine gO ?_
 repeat (simp only [seval, go_sem, beq_self_eq_true, decide_true]; refine gO ?_)
 (first|refine fN ?_|exact fZ)
theorem PartsI.small {c : Cfg} {l : List Part} (h : PartsI c l) : ∀ p ∈ l, p.data.length ≤ 100 := fun p hp => by
 have h1 := (h p hp).1
 unfold partOk at h1
 rw [pieceOk_iff] at h1
 omega
theorem liend (c : Cfg) (e : End) (m m' : EndM) (z : Zc) (h : EndP z e m) (h' : EndP z e m') (hI : EndI c e) : PSpec Tryz.prog 26 [.agg (endL e m).toArray, .agg (endL e m').toArray] z fun w z' => w = .bool true ∧ z = z' := by
 have hw := hI.tx.win
 have hc4 := hI.tx.cfg.win
 have hq := hI.tx.queue
 have hq2 := hI.ctx.queue
 have hj := hI.rx.join.le
 have hj2 := hI.crx.2.le
 have hp := hI.put
 have hg' := hI.got
 have c1 := litx e.tx _ _ _ _ z h.fl h.qu h'.fl h'.qu (by omega) (by omega) hI.tx.fl.small hI.tx.qu.small
 have c2 := lirx e.rx _ _ z h.jo h'.jo (by omega)
 have c3 := lictx e.ctx _ _ z h.cq h'.cq (by omega) hI.ctx.qu.small
 have c4 := licrx e.crx _ _ z h.kj h'.kj (by omega)
 have c5 := lisdus e.put e.put _ _ z h.pu h'.pu (by have := hp.1; omega) (by have := hp.1; omega) (fun x hx => by have := hp.2 x hx; omega) (fun x hx => by have := hp.2 x hx; omega)
 have c6 := lisdus e.got e.got _ _ z h.go h'.go (by have := hg'.1; omega) (by have := hg'.1; omega) (fun x hx => by have := hg'.2 x hx; omega) (fun x hx => by have := hg'.2 x hx; omega)
 simp only [decide_true] at c5 c6
 refine eP k26 ?_
 refine gO ?_
 refine tT ?_; refine callP (c1) rfl rfl ?_; rintro _ _ - ⟨rfl, rfl⟩; refine gO ?_
 refine tT ?_; refine callP (c2) rfl rfl ?_; rintro _ _ - ⟨rfl, rfl⟩; refine gO ?_
 refine tT ?_; refine callP (c3) rfl rfl ?_; rintro _ _ - ⟨rfl, rfl⟩; refine gO ?_
 refine tT ?_; refine callP (c4) rfl rfl ?_; rintro _ _ - ⟨rfl, rfl⟩; refine gO ?_
 refine tT ?_; refine callP (c5) rfl rfl ?_; rintro _ _ - ⟨rfl, rfl⟩; refine gO ?_
 refine tT ?_; refine callP (c6) rfl rfl ?_; rintro _ _ - ⟨rfl, rfl⟩; refine gO ?_
 (first|refine fN ?_|exact fZ)
theorem liplay_i (Q : Wld → Evt → Prop) (hQ : StepP Q) (c : Cfg) (evs : List Evt) (A : Option Addr) (k : Nat) (z : Zc) (hc : CfgI c) (hE : Sl eRep z evs (.slice A evs.length k)) (hl : evs.length ≤ 400) (hS : ∀ i ev, evs[i]? = some ev → Q (run false (wldNew c) (evs.take i)) ev) : PSpec Tryz.prog 20 [vCfg c, .slice A evs.length k] z (WldF c (run false (wldNew c) evs)) := by
 have hI := wldNew_I hc
 refine eP k20 ?_
 refine gO ?_
 refine tT ?_; refine callP (wldnew_i c z hc) rfl rfl ?_; rintro u z2 hz2 ⟨e0, e1, n0, n1, m, link, hw0, rfl, hP⟩; refine gO ?_
 rw [hw0] at hI hS ⊢
 refine tT ?_; refine callP (wldrun_i Q hQ c link e0 e1 n0 n1 m evs A k z2 hP hI (hE.mono hz2) hl hS) rfl rfl ?_; rintro u z3 hz3 ⟨f0, f1, g0, g1, m3, lk, hw, rfl, hP3⟩; refine gO ?_
 (first|refine fN ?_|exact fZ)
 exact ⟨f0, f1, g0, g1, m3, lk, hw, rfl, hP3⟩
theorem wld_inj {c d : Cfg} {e0 e1 f0 f1 : End} {n0 n1 g0 g1 : List Msg} {k l : Int} (h : (⟨c, [e0, e1], [n0, n1], k⟩ : Wld) = ⟨d, [f0, f1], [g0, g1], l⟩) : e0 = f0 ∧ e1 = f1 ∧ n0 = g0 ∧ n1 = g1 ∧ k = l := by
 injection h with _ h1 h2 h3
 injection h1 with h1 h4
 injection h4 with h4 _
 injection h2 with h2 h5
 injection h5 with h5 _
 exact ⟨h1, h4, h2, h5, h3⟩
def k32 := mkK [(.c 2 5 true),(.t 3)] [] [] Tryz.func32 Tryz.ntmps32 rfl
theorem eventH1 (b : Nat) (A : Option Addr) (cc : Nat) (code : List Int) (p : Int) (c : Cfg) (link : Int) (m : WM) (z : Zc) (hb : By z code (.slice A code.length cc)) (hp : 0 ≤ p ∧ p ≤ 800000) (hl : code.length ≤ 2000) (hm : 1 ≤ c.mtu ∧ c.mtu ≤ 24) :
  Spec Tryz.prog 62 [.pointer (some ⟨b, 0, none⟩), wldV c link m, .bool true, .bool false] z (starL [rdA b A code.length cc p]) fun v z' A' => ∃ (ev : Evt) (B : Option Addr) (n k : Nat) (p' : Int), v = vEvt ev (.slice B n k) ∧ A' = starL [rdA b A code.length cc p'] ∧ By z' ev.data (.slice B n k) ∧ EvD ev ∧ ev.kind ≤ 10 ∧ p ≤ p' ∧ p' ≤ p + 200 := by
 refine eB k62 ?_
 refine gO ?_
 refine tT ?_; refine callW 1000 (pick_s b A cc code p 2 z hb (by omega) hl (by omega)) rfl rfl rfl rfl ?_; rintro v1 z1 A' hz1 ⟨x, rfl, rfl, rfl, hx, hx2, _⟩; refine gO ?_
 refine tT ?_; refine callW 1000 (pick_s b A cc code (p + 1) 20 z hb (by omega) hl (by omega)) rfl rfl rfl rfl ?_; rintro v2 z1 A' hz2 ⟨y, rfl, rfl, rfl, hy, hy2, _⟩; refine gO ?_
 have hw : x = 0 ∨ x = 1 := by have := hx2 (by omega); omega
 (try simp only [seval, go_sem]); repeat' (first | (with_reducible refine vsI.id ?_; (try simp only [seval, go_sem])) | (with_reducible refine vcI_cond ?_; (try simp only [seval, go_sem])) | (with_reducible refine guardR.split (fun hg => ?_) (fun hg => ?_) <;> (try simp only [hg]) <;> simp only [seval, go_sem]) | (with_reducible refine condI.split (fun hg => ?_) (fun hg => ?_) <;> (try simp only [hg]) <;> (try simp only [seval, go_sem])) | (with_reducible refine callM.toT ?_))
 all_goals try (refine fQ ?_; first
  | exact ⟨⟨2, x, 0, 0, []⟩, none, 0, 0, _, rfl, rfl, Sl.nil _ _ _, ⟨by simp, hw, by simp⟩, by simp, by omega, by omega⟩
  | exact ⟨⟨3, x, 0, 0, []⟩, none, 0, 0, _, rfl, rfl, Sl.nil _ _ _, ⟨by simp, hw, by simp⟩, by simp, by omega, by omega⟩
  | exact ⟨⟨5, x, 0, 0, []⟩, none, 0, 0, _, rfl, rfl, Sl.nil _ _ _, ⟨by simp, hw, by simp⟩, by simp, by omega, by omega⟩
  | exact ⟨⟨6, x, 0, 0, []⟩, none, 0, 0, _, rfl, rfl, Sl.nil _ _ _, ⟨by simp, hw, by simp⟩, by simp, by omega, by omega⟩
  | exact ⟨⟨7, x, 0, 0, []⟩, none, 0, 0, _, rfl, rfl, Sl.nil _ _ _, ⟨by simp, hw, by simp⟩, by simp, by omega, by omega⟩
  | exact ⟨⟨8, x, 0, 0, []⟩, none, 0, 0, _, rfl, rfl, Sl.nil _ _ _, ⟨by simp, hw, by simp⟩, by simp, by omega, by omega⟩)
 ·refine tT ?_; refine callW 1000 (pick_s b A cc code (p + 1 + 1) 2 z hb (by omega) hl (by omega)) rfl rfl rfl rfl ?_; rintro v3 z1 A' hz3 ⟨u, rfl, rfl, rfl, hu, hu2, _⟩; refine gO ?_
  have hu1 := hu2 (by omega)
  have w1 : IntKind.i64.wrap (c.mtu + u) = c.mtu + u := wrap_in (by omega) (by omega)
  simp only [w1]
  refine tT ?_; refine callW 1000 (bytes_s b A cc code (p + 1 + 1 + 1) (c.mtu + u) z hb (by omega) hl (by omega)) rfl rfl rfl rfl ?_; rintro v4 z4 A' hz4 ⟨out, B, k, p', rfl, rfl, hby, hlen, hp1, hp2⟩; refine gO ?_
  refine fQ ?_
  exact ⟨⟨1, x, 0, 0, out⟩, B, out.length, k, p', rfl, rfl, hby, ⟨by simp, hw, by show out.length ≤ 100; omega⟩, by simp, by omega, by omega⟩
 ·refine tT ?_; refine callW 1000 (pick_s b A cc code (p + 1 + 1) 2 z hb (by omega) hl (by omega)) rfl rfl rfl rfl ?_; rintro v3 z1 A' hz3 ⟨u, rfl, rfl, rfl, hu, hu2, _⟩; refine gO ?_
  have hu1 := hu2 (by omega)
  have w1 : IntKind.i64.wrap (c.mtu + u) = c.mtu + u := wrap_in (by omega) (by omega)
  simp only [w1]
  refine tT ?_; refine callW 1000 (bytes_s b A cc code (p + 1 + 1 + 1) (c.mtu + u) z hb (by omega) hl (by omega)) rfl rfl rfl rfl ?_; rintro v4 z4 A' hz4 ⟨out, B, k, p', rfl, rfl, hby, hlen, hp1, hp2⟩; refine gO ?_
  refine fQ ?_
  exact ⟨⟨1, x, 0, 0, out⟩, B, out.length, k, p', rfl, rfl, hby, ⟨by simp, hw, by show out.length ≤ 100; omega⟩, by simp, by omega, by omega⟩
 ·refine tT ?_; refine callW 1000 (pick_s b A cc code (p + 1 + 1) 2 z hb (by omega) hl (by omega)) rfl rfl rfl rfl ?_; rintro v3 z1 A' hz3 ⟨u, rfl, rfl, rfl, hu, hu2, _⟩; refine gO ?_
  have hu1 := hu2 (by omega)
  have w1 : IntKind.i64.wrap (c.mtu + u) = c.mtu + u := wrap_in (by omega) (by omega)
  simp only [w1]
  refine tT ?_; refine callW 1000 (bytes_s b A cc code (p + 1 + 1 + 1) (c.mtu + u) z hb (by omega) hl (by omega)) rfl rfl rfl rfl ?_; rintro v4 z4 A' hz4 ⟨out, B, k, p', rfl, rfl, hby, hlen, hp1, hp2⟩; refine gO ?_
  refine fQ ?_
  exact ⟨⟨1, x, 0, 0, out⟩, B, out.length, k, p', rfl, rfl, hby, ⟨by simp, hw, by show out.length ≤ 100; omega⟩, by simp, by omega, by omega⟩
 ·refine tT ?_; refine callW 1000 (pick_s b A cc code (p + 1 + 1) 2 z hb (by omega) hl (by omega)) rfl rfl rfl rfl ?_; rintro v3 z1 A' hz3 ⟨u, rfl, rfl, rfl, hu, hu2, _⟩; refine gO ?_
  refine tT ?_; refine callW 1000 (pick_s b A cc code (p + 1 + 1 + 1) 2 z hb (by omega) hl (by omega)) rfl rfl rfl rfl ?_; rintro v4 z1 A' hz4 ⟨u', rfl, rfl, rfl, hu', hu2', _⟩; refine gO ?_
  refine fQ ?_
  exact ⟨⟨4, x, 0, _, []⟩, none, 0, 0, _, rfl, rfl, Sl.nil _ _ _, ⟨by simp, hw, by simp⟩, by simp, by omega, by omega⟩
 ·refine tT ?_; refine callW 1000 (pick_s b A cc code (p + 1 + 1) 16 z hb (by omega) hl (by omega)) rfl rfl rfl rfl ?_; rintro v3 z1 A' hz3 ⟨u, rfl, rfl, rfl, hu, hu2, _⟩; refine gO ?_
  refine tT ?_; refine callW 1000 (pick_s b A cc code (p + 1 + 1 + 1) 255 z hb (by omega) hl (by omega)) rfl rfl rfl rfl ?_; rintro v4 z1 A' hz4 ⟨u', rfl, rfl, rfl, hu', hu2', _⟩; refine gO ?_
  refine fQ ?_
  exact ⟨⟨9, x, _, _, []⟩, none, 0, 0, _, rfl, rfl, Sl.nil _ _ _, ⟨by simp, hw, by simp⟩, by simp, by omega, by omega⟩
 ·refine tT ?_; refine callW 1000 (pick_s b A cc code (p + 1 + 1) 4 z hb (by omega) hl (by omega)) rfl rfl rfl rfl ?_; rintro v3 z1 A' hz3 ⟨u, rfl, rfl, rfl, hu, hu2, _⟩; refine gO ?_
  (try simp only [seval, go_sem]); repeat' (first | (with_reducible refine vsI.id ?_; (try simp only [seval, go_sem])) | (with_reducible refine vcI_cond ?_; (try simp only [seval, go_sem])) | (with_reducible refine guardR.split (fun hg => ?_) (fun hg => ?_) <;> (try simp only [hg]) <;> simp only [seval, go_sem]) | (with_reducible refine condI.split (fun hg => ?_) (fun hg => ?_) <;> (try simp only [hg]) <;> (try simp only [seval, go_sem])) | (with_reducible refine callM.toT ?_))
  all_goals refine fQ ?_
  ·exact ⟨⟨10, 0, 0, 0, []⟩, none, 0, 0, _, rfl, rfl, Sl.nil _ _ _, ⟨by simp, .inl rfl, by simp⟩, by simp, by omega, by omega⟩
  ·exact ⟨⟨7, x, 0, 0, []⟩, none, 0, 0, _, rfl, rfl, Sl.nil _ _ _, ⟨by simp, hw, by simp⟩, by simp, by omega, by omega⟩
theorem play_1 (hQ : DrawE (fun e => EvD e ∧ e.kind ≤ 10) true false) (b : Nat) (A : Option Addr) (cc : Nat) (code : List Int) (z : Zc) (hb : By z code (.slice A code.length cc)) (hlen : code.length ≤ 2000) :
  Spec Tryz.prog 34 [.pointer (some ⟨b, 0, none⟩), .int .i64 140, .int .i64 1, .bool true, .bool false] z (starL [rdA b A code.length cc 0]) (PlayG (fun e => EvD e ∧ e.kind ≤ 10) 1) := by
 refine eB k34 ?_
 refine gO ?_
 refine tT ?_; refine callW 1000 (cfg_s b A cc code 0 z hb (by omega) hlen) rfl rfl rfl rfl ?_; rintro v1 z1 A1 hz1 ⟨⟨q1, q2, q3, q4, q5⟩, p1, rfl, rfl, hc1, hp1, hp1'⟩; refine gO ?_
 try simp only [seval, go_sem, show decide ((1 : Int) > 0) = true from rfl]
 refine gO ?_
 have hc : CfgI ⟨1, q2, q3, q4, q5⟩ := ⟨.inl rfl, hc1.win, hc1.mps, hc1.mtu, hc1.tri⟩
 refine tT ?_; refine callO 1001 ((new_s ⟨1, q2, q3, q4, q5⟩ z1 (cfgOk_iff.2 hc)).mono fun _ _ _ _ h => wldH_of h (wldNew_I hc)) rfl rfl rfl ?_; rintro v2 z2 A2 hz2 ⟨e0, e1, n0, n1, m, link, rfl, rfl, hR, hW⟩; refine gO ?_
 refine tT ?_; refine callW 1000 (pick_s b A cc code p1 140 z2 ((hb.mono hz1).mono hz2) (by omega) hlen (by omega)) rfl rfl rfl rfl ?_; rintro v3 z3 A3 hz3 ⟨x, rfl, rfl, rfl, hx0, hx1, _⟩; refine gO ?_
 have hx1 := hx1 (by omega)
 obtain ⟨k0, rfl⟩ := Int.eq_ofNat_of_zero_le hx0
 refine loopV.toRow 90 4 rfl rfl (m := 0) (sz := 5) rfl (by omega) (fun b0 => ?_)
 simp only [seval, go_sem, rowSt, subV, subC, subE, subL]
 refine loop_upd (ι := PlayS) (n := 5) (fun s => z2 ≤ s.z ∧ s.k + s.evs.length = k0 ∧ p1 ≤ s.p ∧ s.p ≤ p1 + 1 + 200 * s.evs.length ∧ Els eRep s.z s.evs s.cs ∧ s.evs.length ≤ s.C ∧ (∀ e ∈ s.evs, EvD e ∧ e.kind ≤ 10) ∧ WldR s.z s.e0 s.e1 s.n0 s.n1 s.m ∧ WldI ⟨⟨1, q2, q3, q4, q5⟩, [s.e0, s.e1], [s.n0, s.n1], s.link⟩) (fun s => [(15, .c (.v (.slice s.A s.evs.length s.C))), (16, .c (.v (.int .i64 s.k)))])
  (fun s => [(1000, .own (starL [rdA b A code.length cc s.p])), (1001, .own (wldA s.e0 s.e1 s.n0 s.n1 s.m)), (90, .own (rowA 35 5 (.slice s.A s.evs.length s.C) s.evs.length s.cs)), (3, .cells 31 [.v (.int .i64 1), .v (.int .i64 q2), .v (.int .i64 q3), .v (.int .i64 q4), .v (.int .i64 q5), .v (.slice s.m.E 2 s.m.EC), .v (.slice s.m.N 2 s.m.NC), .v (.int .i64 s.link)]), (2, .cells 24 [.v (.int .i64 1), .v (.int .i64 q2), .v (.int .i64 q3), .v (.int .i64 q4), .v (.int .i64 q5)]), (1, .cells 31 [.v (.int .i64 0), .v (.int .i64 0), .v (.int .i64 0), .v (.int .i64 0), .v (.int .i64 0), .v (.slice none 0 0), .v (.slice none 0 0), .v (.int .i64 0)]), (0, .cells 24 z5)])
  (fun s => s.z) (fun s => s.k) ⟨k0, p1 + 1, [], [], some ⟨b0, 0, none⟩, 0, e0, e1, n0, n1, link, m, z2⟩ ⟨Zc.rfl' _, by simp, by dsimp only; omega, by simp, rfl, Nat.le_refl _, by simp, hR, hW⟩ (by (simp only [wrI, wrR, anyL, st, List.append_nil, List.nil_append, List.cons_append]); exact rfl) ?_ ?_
 ·simp only [List.length_nil]
  exact lX
 ·rintro ⟨k, p, evs, cs, EA, EC, e0, e1, n0, n1, link, m, y⟩ ⟨hy, hk, hp2, hp3, hE, hEC, hEv, hR, hW⟩
  dsimp only at *
  refine gO ?_
  (with_reducible refine condI.split (fun hg => ?_) (fun hg => ?_) <;> (try simp only [hg]) <;> (try simp only [seval, go_sem]))
  ·have hk0 : 0 < k := by have := of_decide_eq_true hg; omega
   refine gO ?_
   refine tT ?_; refine callW 1000 (hQ b A cc code p ⟨1, q2, q3, q4, q5⟩ link m y (((hb.mono hz1).mono hz2).mono hy) ⟨by omega, by omega⟩ hlen ⟨hc.mtu.1, hc.mtu.2⟩) rfl rfl rfl rfl ?_; rintro v4 z4 A4 hz4 ⟨eV, B, bn, bc, p', rfl, rfl, hby, hev, hqe, hp4, hp5⟩; refine gO ?_
   have hr4 := WldR.mono hz4 hR
   refine aT ?_; (refine appM_newF 90 atyV rfl rfl rfl rfl rfl rfl rfl (by simp [Value.oneCell']) (by omega) (fun A6 c6 hc6 hat6 => ?_)); simp only [seval, go_sem]
   refine gO ?_
   obtain ⟨hk1, hwho, hdl⟩ := hev
   have hEv' : ∀ x ∈ evs ++ [eV], EvD x ∧ x.kind ≤ 10 := fun x hx => by
    rcases List.mem_append.1 hx with hx | hx
    ·exact hEv x hx
    ·rw [List.mem_singleton.1 hx]; exact hqe
   have hW' := step_I (g := true) hW eV
   have hwk : IntKind.i64.wrap ((k : Int) - 1) = ((k - 1 : Nat) : Int) := by rw [wrap_in (by omega) (by omega)]; omega
   refine tT ?_; refine callW 1001 ((stepE_w 1 ⟨1, q2, q3, q4, q5⟩ link e0 e1 n0 n1 m eV (.slice B bn bc) z4 hby (by omega) hr4 hW rfl hwho hk1).mono fun _ _ _ _ h => wldH_of h hW') rfl rfl rfl rfl ?_; rintro v5 z5 A5 hz5 ⟨e0', e1', n0', n1', m', link', rfl, rfl, hR5, hW5⟩; refine gO ?_
   refine gO ?_
   simp only [hwk]
   refine ⟨⟨k - 1, p', evs ++ [eV], cs ++ [.int .i64 eV.kind, .int .i64 eV.who, .int .i64 eV.at_, .int .i64 eV.v, .slice B bn bc], A6, c6, e0', e1', n0', n1', link', m', z5⟩, ⟨Zc.trans' hy (Zc.trans' hz4 hz5), by dsimp only; rw [List.length_append, List.length_singleton]; omega, by dsimp only; omega, by dsimp only; rw [List.length_append, List.length_singleton]; omega, ?_, by dsimp only; rw [List.length_append, List.length_singleton]; omega, hEv', hR5, hW5⟩, by dsimp only; omega, ?_⟩
   ·exact Els.append (hE.mono (Zc.trans' hz4 hz5)) (Els.single ⟨_, rfl, hby.mono hz5⟩)
   ·simp only [List.length_append, List.length_singleton]
    exact lX
  ·have hk0 : k = 0 := by have := of_decide_eq_false hg; omega
   subst hk0
   (try simp only [seval, go_sem])
   refine vsI.frzA 1001 rfl (RdA.wld hR) rfl (fun z6 hz6 hP6 => ?_)
   have hP6 := hP6 hz6
   simp only [seval, go_sem]
   (refine vsI.frzR 90 rfl rfl (fun A7 c7 z7 hv7 hc7 hz7 hr7 => ?_)); (first | subst hv7 | (injection hv7 with hv_1 hv_2 hv_3; subst hv_1; subst hv_3)); refine gO ?_
   refine tT ?_; refine callO 1001 ((copy_s ⟨1, q2, q3, q4, q5⟩ link e0 e1 n0 n1 m z7 (hP6.mono hz7) hW).mono fun _ _ _ _ h => wldH_of h hW) rfl rfl rfl ?_; rintro v8 z8 A8 hz8 ⟨e0', e1', n0', n1', m', link', rfl, rfl, hR8, hW8⟩; refine gO ?_
   (((try simp only [seval, go_sem]);repeat((with_reducible first|refine vJ ?_|refine vK ?_);try simp only [seval, go_sem])); refine FinV.own 1001 rfl ?_; simp only [finE, finS, gt, look, SV.toV, SC.toV, allV, tupV, zq1, zq2, zq3, zq4, Nat.reduceAdd, Nat.reduceEqDiff, reduceCtorEq, if_true, if_false, reduceIte, Nat.succ_ne_self, true_and, zq5, zq7, zq8])
   exact ⟨⟨1, q2, q3, q4, q5⟩, evs, _, _, link', m', e0', e1', n0', n1', rfl, rfl, hR8, hW8, ⟨_, _, _, rfl, hc7, hE.mono (Zc.trans' hz6 (Zc.trans' hz7 hz8)), hr7.mono hz8⟩, hc, fun _ => rfl, hEv, by omega⟩
theorem drawPlay_w (code : List Int) (v : Value) (z : Zc) (h : By z code v) (hl : code.length ≤ 1000000000) : PSpec Tryz.prog 32 [v] z fun u z' => ∃ (c : Cfg) (evs : List Evt) (B : Option Addr) (k : Nat), u = .tuple #[vCfg c, .slice B evs.length k] ∧ Sl eRep z' evs (.slice B evs.length k) ∧ CfgI c ∧ c.mode = 1 ∧ (∀ e ∈ evs, EvD e ∧ e.kind ≤ 10) ∧ evs.length ≤ 140 := by
 obtain ⟨A0, c0, rfl, hc0, hB0, hr0⟩ := h.form
 refine eP k32 ?_
 refine gO ?_
 refine tT ?_; refine callO 1000 (open_s code _ z h hl) rfl rfl rfl ?_; rintro u z1 A1 hz1 ⟨b, A, c, cd, rfl, rfl, hcd, hby⟩; refine gO ?_
 refine tT ?_; refine callW 1000 (play_1 (fun b A cc code p c link m z h1 h2 h3 h4 => (eventH1 b A cc code p c link m z h1 h2 h3 h4).mono fun v z' A' _ ⟨ev, B, n, k, p', g1, g2, g3, g4, g5, g6⟩ => ⟨ev, B, n, k, p', g1, g2, g3, g4, ⟨g4, g5⟩, g6⟩) b A c cd z1 hby hcd) rfl rfl rfl rfl ?_; rintro u z2 A2 hz2 ⟨cf, evs, B, k, link, m, e0, e1, n0, n1, rfl, rfl, hR, hW, hE, hc, hm, hev, hlen⟩; refine gO ?_
 (first|refine fN ?_|exact fZ)
 exact ⟨cf, evs, B, k, rfl, hE, hc, hm (by omega), hev, hlen⟩
def k14 := mkK [(.t 2)] [] [(12,[],.l [0,5,8,12,17,20,25,28,32,37,42,44,48,52,57,60,64,69,72,76,80])] Tryz.func14 Tryz.ntmps14 rfl
set_option maxHeartbeats 8000000
theorem step_mv1 (c : Cfg) (e0 e1 : End) (n0 n1 : List Msg) (link : Int) : step false ⟨c, [e0, e1], [n0, n1], link⟩ ⟨10, 0, 0, 0, []⟩ = ⟨c, [e0, e1], [[], []], 1 - link⟩ := by simp [step]
theorem wldMove_law (code : List Int) (v : Value) (z : Zc) (h : By z code v) : PSpec Tryz.prog 14 [v] z fun u z' => u = .bool true := by
 obtain ⟨A0, c0, rfl, hc0, hB0, hr0⟩ := h.form
 refine eP k14 ?_
 refine gO ?_
 (with_reducible refine condI.split (fun hg => ?_) (fun hg => ?_) <;> (try simp only [hg]) <;> (try simp only [seval, go_sem]))
 ·(first|refine fN ?_|exact fZ)
 have hlen : code.length ≤ 1048576 := by have := of_decide_eq_false hg; omega
 refine gO ?_
 refine tT ?_; refine callP (drawPlay_w code _ z h (by omega)) rfl rfl ?_; rintro u z1 hz1 ⟨c, evs, B, kB, rfl, hE, hc, hm1, hev, hel⟩; refine gO ?_
 refine tT ?_; refine callP (liplay_i QW stepP_W c evs B kB z1 hc hE (by omega) (fun i ev hx => (hev ev (List.mem_of_getElem? hx)).1)) rfl rfl ?_; rintro u z2 hz2 ⟨e0, e1, n0, n1, m, link, hw, rfl, hP⟩; refine gO ?_
 have hI := run_W (g := false) (wldNew_W hc) evs
 rw [hw] at hI
 have hlk : 0 ≤ link ∧ link ≤ 1 := hI.ok.link
 refine tT ?_; refine callP (wldstep_i QW stepP_W c link e0 e1 n0 n1 m ⟨10, 0, 0, 0, []⟩ (.slice none 0 0) z2 hP hI.ok (Sl.nil _ _ _) ⟨⟨by simp, by simp⟩, .inl rfl, by simp⟩) rfl rfl ?_; rintro u z3 hz3 ⟨f0, f1, g0, g1, m5, lk, hw5, rfl, hP5⟩; refine gO ?_
 have hI5 := step_W (g := false) hI ⟨10, 0, 0, 0, []⟩
 rw [hw5] at hI5
 rw [step_mv1] at hw5
 obtain ⟨rfl, rfl, rfl, rfl, rfl⟩ := wld_inj hw5
 refine tT ?_; refine callP (wldstep_i QW stepP_W c _ e0 e1 [] [] m5 ⟨10, 0, 0, 0, []⟩ (.slice none 0 0) z3 hP5 hI5.ok (Sl.nil _ _ _) ⟨⟨by simp, by simp⟩, .inl rfl, by simp⟩) rfl rfl ?_; rintro u z4 hz4 ⟨f0, f1, g0, g1, m6, lk, hw6, rfl, hP6⟩; refine gO ?_
 rw [step_mv1] at hw6
 obtain ⟨rfl, rfl, rfl, rfl, rfl⟩ := wld_inj hw6
 have hz24 := Zc.trans' hz3 hz4
 refine tT ?_; refine callP (wldok_i c link e0 e1 n0 n1 m z4 (hP.mono hz24) hI.ok) rfl rfl ?_; rintro u z5 hz5 rfl; refine gO ?_
 have hPa := (hP.mono hz24).mono hz5
 have hPb := (hP5.mono hz4).mono hz5
 have w1 : IntKind.i64.wrap (1 - link) = 1 - link := wrap_in (by omega) (by omega)
 have b1 : ((1 - link) != (1 - link)) = false := bne_self_eq_false _
 have b2 : ((1 - (1 - link)) != link) = false := by rw [show 1 - (1 - link) = link by omega]; exact bne_self_eq_false _
 repeat (simp only [seval, go_sem, w1, b1, b2]; refine gO ?_)
 refine loop_upd (ι := Nat) (n := 4) (fun k => k ≤ 2) (fun k => [(8, .c (.v (.int .i64 k)))]) (fun _ => [(0, .cells 24 (c5 c)), (1, .cells tyW (wldE c link m)), (2, .cells tyW (wldE c (1 - link) m5)), (3, .cells tyW (wldE c (1 - (1 - link)) m6))]) (fun _ => z5) (fun k => 2 - k) 0 (by omega) (by (simp only [wrI, wrR, anyL, st, List.append_nil, List.nil_append, List.cons_append]); exact rfl) ?_ ?_
 ·simp only [wldE]
  exact lX
 ·intro k hk
  simp only [wldE]
  have hk3 : k = 0 ∨ k = 1 ∨ k = 2 := by omega
  rcases hk3 with rfl | rfl | rfl
  ·refine gO ?_
   ((first | refine ⟨⟨by omega, hPb.atE⟩, ?_⟩ | refine ⟨hPb.atE, ?_⟩); (try simp only [seval, go_sem]))
   (refine ldF.agg _ rfl (by first | exact .inl hPb.all0 | exact hPb.all0) ?_; (try simp only [seval, go_sem]))
   ((first | refine ⟨⟨by omega, hPa.atE⟩, ?_⟩ | refine ⟨hPa.atE, ?_⟩); (try simp only [seval, go_sem]))
   (refine ldF.agg _ rfl (by first | exact .inl hPa.all0 | exact hPa.all0) ?_; (try simp only [seval, go_sem]))
   refine tT ?_; refine callP (liend c e0 m5.m0 m.m0 z5 hPb.e0 hPa.e0 (hI.ok.ends 0 (by omega))) rfl rfl ?_; rintro _ _ - ⟨rfl, rfl⟩; refine gO ?_
   ((first | refine ⟨⟨by omega, hPb.atN⟩, ?_⟩ | refine ⟨hPb.atN, ?_⟩); (try simp only [seval, go_sem]))
   (refine ldF.one _ (by first | exact .inl (hPb.N.cell 0 rfl) | exact (hPb.N.cell 0 rfl)) ?_; (try simp only [seval, go_sem]))
   refine gO ?_
   refine ⟨1, by omega, by omega, ?_⟩
   exact lX
  ·refine gO ?_
   ((first | refine ⟨⟨by omega, hPb.atE⟩, ?_⟩ | refine ⟨hPb.atE, ?_⟩); (try simp only [seval, go_sem]))
   (refine ldF.agg _ rfl (by first | exact .inl hPb.all1 | exact hPb.all1) ?_; (try simp only [seval, go_sem]))
   ((first | refine ⟨⟨by omega, hPa.atE⟩, ?_⟩ | refine ⟨hPa.atE, ?_⟩); (try simp only [seval, go_sem]))
   (refine ldF.agg _ rfl (by first | exact .inl hPa.all1 | exact hPa.all1) ?_; (try simp only [seval, go_sem]))
   refine tT ?_; refine callP (liend c e1 m5.m1 m.m1 z5 hPb.e1 hPa.e1 (hI.ok.ends 1 (by omega))) rfl rfl ?_; rintro _ _ - ⟨rfl, rfl⟩; refine gO ?_
   ((first | refine ⟨⟨by omega, hPb.atN⟩, ?_⟩ | refine ⟨hPb.atN, ?_⟩); (try simp only [seval, go_sem]))
   (refine ldF.one _ (by first | exact .inl (hPb.N.cell 1 rfl) | exact (hPb.N.cell 1 rfl)) ?_; (try simp only [seval, go_sem]))
   refine gO ?_
   refine ⟨2, by omega, by omega, ?_⟩
   exact lX
  ·refine gO ?_
   refine tT ?_; refine callP (liok z5) rfl rfl ?_; rintro _ _ - ⟨rfl, rfl⟩; refine gO ?_
   (first|refine fN ?_|exact fZ)
end Go.Proofs.YtllafcmkppmdgaaGreat
namespace Go.Proofs.YtllafcmkppmdgaaGreat.fnWldMove
open Go.ChangeShapes Go.WideShapes Go.ChangeAt Go.RowKit
open Go.ChangeMaps (open_string shut_string)
set_option linter.unusedVariables false
set_option linter.unusedSimpArgs false
theorem own : ownKnob Tryz.prog.godebug = none := by kernel_rfl
theorem laidOut : laidOutB Tryz.prog = true := by kernel_rfl
def IsRow (k : IntKind) (w : World) (a : Option Addr) (len cap : Nat) (zs : List Int) : Prop :=
 (a = none ∧ len = 0 ∧ cap = 0 ∧ zs = []) ∨
 ∃ x, a = some x ∧ len ≤ cap ∧ cap ≤ maxLen ∧ zs.length = cap ∧ (∀ i, i < zs.length → w.cell? (x.add i) = some (.int k (zs.getD i 0))) ∧ ∀ n ∈ zs, (Lit.int k n).wf = true
def all (W : World) : Zc := ⟨fun _ => True, W⟩
theorem all_wok (W : World) : WOk ⟨W, fun _ => False, all W⟩ (all W) (fun _ => False) W :=
 ⟨rfl, rfl, rfl, Nat.le_refl _, Nat.le_refl _, fun _ _ => rfl, fun _ h => h.elim, fun _ _ _ => rfl, fun _ h => h.elim, fun _ h => .inl h, Zc.rfl' _⟩
theorem IsRow.by {W : World} {a : Option Addr} {len cap : Nat} {zs : List Int} (h : IsRow .u8 W a len cap zs) : ∃ l, By (all W) l (.slice a len cap) := by
 rcases h with ⟨rfl, rfl, rfl, rfl⟩ | ⟨x, rfl, hlc, hcm, hl, hc, hw⟩
 ·exact ⟨[], By.mk (Nat.le_refl _) (fun x hx => by cases hx) (RdAt.nil _ _ _)⟩
 ·have hlen : (zs.take len).length = len := by rw [List.length_take]; omega
  refine ⟨zs.take len, ?_⟩
  have key := By.mk (z := all W) (l := zs.take len) (A := some x) (c := cap) (by omega) (fun y hy => ?_) (fun hn => ?_)
  ·rw [hlen] at key; exact key
  ·have := hw y (List.mem_of_mem_take hy)
   have h : IntKind.u8.min ≤ y ∧ y ≤ IntKind.u8.max := by simpa [Lit.wf] using this
   exact h
  ·have h0 : 0 < zs.length := by
    cases zs with
    | nil => exact absurd (by simp [bc]) hn
    | cons _ _ => simp
   obtain ⟨b, o, rfl, hcell⟩ := ints_at hc h0
   refine ⟨b, o, rfl, ⟨trivial, World.block_lt_of_cell? _ ⟨b, o, none⟩ (hcell 0 h0)⟩, fun i u hu => ?_⟩
   simp only [bc, List.getElem?_map, Option.map_eq_some_iff] at hu
   obtain ⟨y, hy, rfl⟩ := hu
   rw [List.getElem?_take] at hy
   split at hy
   ·obtain ⟨hi, rfl⟩ := List.getElem?_eq_some_iff.1 hy
    have := hcell i hi
    show W.cell? _ = _
    simpa [List.getD, hi] using this
   ·cases hy
set_option maxRecDepth 100000 in
theorem lifted (os : Os) (started : os.Started) (H : Type) (enc : TypeId × Value → H) :
  ReturnsInHanded {} Tryz.checked os 14 .any (Rows.fnWldMoveSpec.pre6 enc Tryz.prog Tryz.f14 Rows.fnWldMoveRow.domain false) (Rows.fnWldMoveSpec.post enc Tryz.prog Tryz.f14 false true false false) := by
 refine returnsInHanded_of_change_sized (C := Tryz.checked) own started (by kernel_rfl) Tryz.func14
  (ChangeSpec.witness6 (enc := enc) (C := Tryz.checked) false ⟨#[], #[.slice none 0 0], []⟩ 8 (by kernel_rfl) (by kernel_rfl) (by kernel_rfl) (by kernel_rfl)) ?_
 intro W base args ds gs before hval0 hW hcnd hsz0 _
 have hval : ∀ (j : Nat) t v, Tryz.f14.params[j]? = some t → args[j]? = some v → Value.okWide Tryz.prog W .any base t v := hval0
 have hW' := hW
 obtain ⟨p, q, hA0, hV, rfl, hfz, hnd⟩ := hW
 have hA : DataW.TrodAll enc Tryz.prog W 0 (fun _ => true) true Tryz.f14.params.toList args.toList ds p := hA0
 rw [Tryz.params14] at hA hval
 obtain ⟨v0, vs0, d0, ds0, p0, q0, hargs, rfl, rfl, h0, r0⟩ := trodAll_cons hA
 obtain ⟨rfl, rfl, rfl⟩ := trodAll_nil r0
 obtain rfl : args = #[v0] := by cases args; simp_all
 obtain ⟨rfl, rfl⟩ := trodVars_none hV
 obtain ⟨a0, len0, cap0, rfl⟩ := okWide_slice Tryz.underlying22 (hval 0 22 v0 rfl rfl)
 have k0 := h0
 have lt0 : ∀ x ∈ p0, x.block < W.heap.size := by obtain ⟨m, hm⟩ := k0; exact DataW.trod_lt m _ _ _ hm
 obtain ⟨z0, w0⟩ : ∃ zs, IsRow .u8 W a0 len0 cap0 zs := by
  obtain ⟨fuel, hf⟩ := h0
  rcases open_ints Tryz.underlying22 Tryz.underlying5 (by kernel_rfl) hf with ⟨hcs, _⟩ | ⟨x, l, c, zs, hcs, _, hl, hm, hz, _, hcell, hwz⟩
  ·simp [Value.cells] at hcs
   obtain ⟨rfl, rfl, rfl⟩ := hcs
   exact ⟨[], .inl ⟨rfl, rfl, rfl, rfl⟩⟩
  ·simp [Value.cells] at hcs
   obtain ⟨rfl, rfl, rfl⟩ := hcs
   exact ⟨zs, .inr ⟨_, rfl, hl, hm, by simpa using hz, hcell, hwz⟩⟩
 clear hA0 hval0 hsz0
 obtain ⟨l, hl⟩ := w0.by
 refine (wldMove_law l _ (all W) hl W (fun _ => False) (all_wok W) (fun _ h => h)).mono fun e W' ⟨v, z', A', F', he, ⟨_, hv⟩, _, ok⟩ => ?_
 subst he; subst hv
 have bel : Below W.heap.size W W' := ⟨ok.os, ok.tape, ok.output, ok.size, fun k hk => ok.unt k hk id⟩
 exact ⟨_, rfl, _, _, _, [], _, [], hW', trodAll_mk1 (shut_bool Tryz.underlying4 _), (trodAll_cons_mk (Below.trod laidOut (by kernel_rfl) (of_decide_eq_true (by kernel_rfl)) k0 bel lt0) trodAll_mk0), rfl, bel.frame _, fun h => by cases h⟩
theorem over : Rows.fnWldMoveRow.holds Tryz.pinned (OpenSpec.ofChange Rows.fnWldMoveSpec) :=
 OpenClaim.holds_of_wide 14 Tryz.f14 rfl rfl rfl rfl rfl rfl rfl ⟨rfl, rfl, rfl, rfl, rfl⟩ rfl rfl rfl rfl rfl (by kernel_rfl) Tryz.func14 (by kernel_rfl)
  (of_decide_eq_true (by kernel_rfl)) (by unfold Func.isWrapper; first | (rw [if_pos (by decide +kernel)]; kernel_rfl) | (rw [if_neg (by decide +kernel)]; exact ⟨rfl, rfl⟩))
  (fun os started H enc _ => lifted os started H enc)
theorem proved : Rows.FnWldMoveSaid := over
end Go.Proofs.YtllafcmkppmdgaaGreat.fnWldMove
namespace Go.Proofs.YtllafcmkppmdgaaGreat
theorem fnWldMove_holds : Rows.FnWldMoveSaid := fnWldMove.proved
end Go.Proofs.YtllafcmkppmdgaaGreat
