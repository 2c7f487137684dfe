/- What the laws compare: ends, frames on their way, worlds, where they are alike. -/
import Derived.Test.YtllafcmkppmdgaaGreatB13
import Derived.Test.YtllafcmkppmdgaaGreatB12
import Derived.Test.YtllafcmkppmdgaaGreatB22
import Derived.Test.YtllafcmkppmdgaaGreatB23
import Derived.Test.YtllafcmkppmdgaaGreatB25
import Derived.Laws.StructEq
import Derived.ChangeKeysEq
namespace Go.Proofs.YtllafcmkppmdgaaGreat
open Go.RowKit
set_option linter.unusedVariables false
set_option linter.unusedSimpArgs false
set_option maxRecDepth 100000
set_option maxHeartbeats 4000000
theorem oth_neqS {P : Program} {s : St} {K : St → Prop} {d : Option Nat} {ty ty' : TypeId} {x y : Operand} {cs : List SC} {vs : List Value} (hx : ev s.t x = .a cs) (hy : ev s.t y = .a cs) (hv : allV cs = some vs) (hg : P.eqGuardType P.depth ty = false)
  (he : ∀ w : World, (Op.equalIn 10000 ty (.agg vs.toArray) (.agg vs.toArray)).run P w = .ok true w) (hK : K ⟨stO s.t d (.c (.v (.bool false))), s.L, s.z, s.n⟩) : othM P (.binOp .neq ty x y ty') d s K := fun o ho hd C ρ a w Q hs => by
 subst hd
 have h1 : a.eval x = .agg vs.toArray := by
  have := ev_den hs.fr x
  rw [hx] at this
  obtain ⟨us, h2, h3⟩ := this
  rw [h3, allV_den hv h2]
 have h2 : a.eval y = .agg vs.toArray := by
  have := ev_den hs.fr y
  rw [hy] at this
  obtain ⟨us, h2, h3⟩ := this
  rw [h3, allV_den hv h2]
 refine wp_value (w' := w) (v := .bool false) ?_ ⟨_, ρ, hK, hs.put o.dst rfl, Stp.same⟩
 unfold execOp
 simp only [ho]
 refine run_v ?_
 rw [h1, h2, Sem.run_bind, run_eqGuard_agg w _ _ _ _ _ _ hg, Result.andThen_ok, run_neq_struct, he]
 rfl
abbrev tyC : Nat := 24
theorem eqF_self {P : Program} (d : Nat) (xs : Array Value) (w : World) : ∀ fs : List Field, (∀ f ∈ fs, P.plainKey f.type = true ∧ ∃ k k' a, P.underlying f.type = some (.int k') ∧ xs[f.offset]? = some (.int k a)) → (Op.eqFields (d + 1) xs xs fs).run P w = .ok true w
 | [], _ => by simp [Op.eqFields]
 | f :: fs, h => by
  obtain ⟨h1, k, k', a, h2, h3⟩ := h f List.mem_cons_self
  have ih := eqF_self d xs w fs fun g hg => h g (List.mem_cons_of_mem _ hg)
  unfold Op.eqFields
  split
  ·rw [Sem.run_bind, run_part_plain w h1 h3, Result.andThen_ok, Sem.run_bind, run_part_plain w h1 h3, Result.andThen_ok, Sem.run_bind, run_equalIn_int w d _ k k' a a h2, Result.andThen_ok]
   simpa using ih
  ·exact ih
def intF (P : Program) (f : Field) : Bool := P.plainKey f.type && decide (f.offset < 5) && match P.underlying f.type with | some (.int _) => true | _ => false
theorem eq_cfg (a b c d e : Int) (w : World) : (Op.equalIn 10000 tyC (.agg #[.int .i64 a, .int .i64 b, .int .i64 c, .int .i64 d, .int .i64 e]) (.agg #[.int .i64 a, .int .i64 b, .int .i64 c, .int .i64 d, .int .i64 e])).run Tryz.prog w = .ok true w := by
 rw [run_equalIn_agg w 9999 tyC _ _ (by kernel_rfl) (by kernel_rfl)]
 refine eqF_self 9998 _ w _ fun f hf => ?_
 have hall : (Tryz.prog.fieldsOf tyC).toList.all (intF Tryz.prog) = true := by kernel_rfl
 have h := List.all_eq_true.1 hall f hf
 unfold intF at h
 simp only [Bool.and_eq_true, decide_eq_true_eq] at h
 obtain ⟨⟨h1, h2⟩, h3⟩ := h
 refine ⟨h1, ?_⟩
 split at h3
 ·rename_i k hk
  have h5 : f.offset = 0 ∨ f.offset = 1 ∨ f.offset = 2 ∨ f.offset = 3 ∨ f.offset = 4 := by omega
  rcases h5 with h5 | h5 | h5 | h5 | h5 <;> rw [h5] <;> exact ⟨_, k, _, hk, rfl⟩
 ·cases h3
theorem lipart (p : Part) (v u : Value) (z : Zc) (hv : By z p.data v) (hu : By z p.data u) (hl : p.data.length ≤ 100) : PSpec Tryz.prog 75 [vPart p v, vPart p u] z fun w z' => w = .bool true ∧ z = z' := by
 have hc := libytes p.data p.data v u z hv hu (by omega) (by omega)
 obtain ⟨A, c, rfl, _, _, _⟩ := hv.form
 obtain ⟨A2, c2, rfl, _, _, _⟩ := hu.form
 refine eP k75 ?_
 refine gO ?_
 repeat (simp only [seval, go_sem, beq_self_eq_true]; refine gO ?_)
 refine tT ?_; refine callP (hc) rfl rfl ?_; rintro _ _ - ⟨rfl, rfl⟩; refine gO ?_
 try simp only [seval, go_sem, decide_true]
 (first|refine fN ?_|exact fZ)
theorem liparts (l : List Part) (v u : Value) (z : Zc) (hv : Sl pRep z l v) (hu : Sl pRep z l u) (hl : l.length ≤ 1000) (hp : ∀ p ∈ l, p.data.length ≤ 100) : PSpec Tryz.prog 47 [v, u] z fun w z' => w = .bool true ∧ z = z' := by
 obtain ⟨A, c, cs, rfl, hc, he, hr⟩ := hv
 obtain ⟨A2, c2, cs2, rfl, hc2, he2, hr2⟩ := hu
 have dn : ((l.length : Int) != (l.length : Int)) = false := bne_self_eq_false _
 refine eP k47 ?_
 refine gO ?_
 repeat (simp only [seval, go_sem, dn]; refine gO ?_)
 refine loop_upd (ι := Nat) (n := 0) (fun i => i ≤ l.length) (fun i => [(5, .c (.v (.int .i64 i)))]) (fun _ => []) (fun _ => z) (fun i => l.length - i) 0 (by omega) (by (simp only [wrI, wrR, anyL, st, List.append_nil, List.nil_append, List.cons_append]); exact rfl) ?_ ?_
 ·exact lE
 ·intro i hi
  refine gO ?_
  (with_reducible refine condI.split (fun hg => ?_) (fun hg => ?_) <;> (try simp only [hg]) <;> (try simp only [seval, go_sem]))
  ·have hi' : i < l.length := by have := of_decide_eq_true hg; omega
   obtain ⟨x, hx⟩ : ∃ x, l[i]? = some x := ⟨_, List.getElem?_eq_getElem hi'⟩
   obtain ⟨c1, ⟨v, rfl, hb⟩, hr1⟩ := he.at hr hx
   obtain ⟨c3, ⟨u, rfl, hb2⟩, hr3⟩ := he2.at hr2 hx
   have h1 := he.isAt hr (by decide) hi'
   have h2 := he2.isAt hr2 (by decide) hi'
   obtain ⟨A3, k3, rfl, _, _, _⟩ := hb.form
   obtain ⟨A4, k4, rfl, _, _, _⟩ := hb2.form
   refine gO ?_
   (refine ⟨⟨by omega, by omega, h1⟩, ?_⟩; (try simp only [seval, go_sem]))
   (refine ldF.agg _ rfl (by first | exact .inl hr1 | exact hr1) ?_; (try simp only [seval, go_sem]))
   (refine ⟨⟨by omega, by omega, h2⟩, ?_⟩; (try simp only [seval, go_sem]))
   (refine ldF.agg _ rfl (by first | exact .inl hr3 | exact hr3) ?_; (try simp only [seval, go_sem]))
   refine tT ?_; refine callP (lipart x _ _ z hb hb2 (hp x (List.mem_of_getElem? hx))) rfl rfl ?_; rintro _ _ - ⟨rfl, rfl⟩; refine gO ?_
   refine gO ?_
   refine ⟨i + 1, by omega, by omega, ?_⟩
   exact lE
  ·refine gO ?_
   (first|refine fN ?_|exact fZ)
theorem litx (t : Tx) (f q f' q' : Value) (z : Zc) (h1 : Sl pRep z t.flight f) (h2 : Sl pRep z t.queue q) (h3 : Sl pRep z t.flight f') (h4 : Sl pRep z t.queue q') (l1 : t.flight.length ≤ 1000) (l2 : t.queue.length ≤ 1000) (p1 : ∀ p ∈ t.flight, p.data.length ≤ 100) (p2 : ∀ p ∈ t.queue, p.data.length ≤ 100) : PSpec Tryz.prog 22 [vTx t f q, vTx t f' q'] z fun w z' => w = .bool true ∧ z = z' := by
 have c1 := liparts t.flight f f' z h1 h3 l1 p1
 have c2 := liparts t.queue q q' z h2 h4 l2 p2
 obtain ⟨A1, k1, _, rfl, _⟩ := h1
 obtain ⟨A2, k2, _, rfl, _⟩ := h2
 obtain ⟨A3, k3, _, rfl, _⟩ := h3
 obtain ⟨A4, k4, _, rfl, _⟩ := h4
 refine eP k22 ?_
 refine gO ?_
 repeat (simp only [seval, go_sem, beq_self_eq_true, decide_true]; refine gO ?_)
 refine tT ?_; refine callP (c1) rfl rfl ?_; rintro _ _ - ⟨rfl, rfl⟩; refine gO ?_
 repeat (simp only [seval, go_sem, beq_self_eq_true, decide_true]; refine gO ?_)
 refine tT ?_; refine callP (c2) rfl rfl ?_; rintro _ _ - ⟨rfl, rfl⟩; refine gO ?_
 repeat (simp only [seval, go_sem, beq_self_eq_true, decide_true]; refine gO ?_)
 (first|refine fN ?_|exact fZ)
theorem lijoin (j : Join) (v u : Value) (z : Zc) (hv : By z j.got v) (hu : By z j.got u) (hl : j.got.length ≤ 100) : PSpec Tryz.prog 48 [vJoin j v, vJoin j u] z fun w z' => w = .bool true ∧ z = z' := by
 have hc := libytes j.got j.got v u z hv hu (by omega) (by omega)
 obtain ⟨A, c, rfl, _, _, _⟩ := hv.form
 obtain ⟨A2, c2, rfl, _, _, _⟩ := hu.form
 refine eP k48 ?_
 refine gO ?_
 repeat (simp only [seval, go_sem, beq_self_eq_true]; refine gO ?_)
 refine tT ?_; refine callP (hc) rfl rfl ?_; rintro _ _ - ⟨rfl, rfl⟩; refine gO ?_
 try simp only [seval, go_sem, decide_true]
 (first|refine fN ?_|exact fZ)
theorem lirx (r : Rx) (v u : Value) (z : Zc) (hv : By z r.join.got v) (hu : By z r.join.got u) (hl : r.join.got.length ≤ 100) : PSpec Tryz.prog 25 [vRx r v, vRx r u] z fun w z' => w = .bool true ∧ z = z' := by
 have hc := lijoin r.join v u z hv hu hl
 obtain ⟨A, c, rfl, _, _, _⟩ := hv.form
 obtain ⟨A2, c2, rfl, _, _, _⟩ := hu.form
 refine eP k25 ?_
 refine gO ?_
 repeat (simp only [seval, go_sem, beq_self_eq_true, decide_true]; refine gO ?_)
 refine tT ?_; refine callP (hc) rfl rfl ?_; rintro _ _ - ⟨rfl, rfl⟩; refine gO ?_
 repeat (simp only [seval, go_sem, beq_self_eq_true, decide_true]; refine gO ?_)
 (first|refine fN ?_|exact fZ)
theorem licrx (r : CRx) (v u : Value) (z : Zc) (hv : By z r.join.got v) (hu : By z r.join.got u) (hl : r.join.got.length ≤ 100) : PSpec Tryz.prog 24 [vCRx r v, vCRx r u] z fun w z' => w = .bool true ∧ z = z' := by
 have hc := lijoin r.join v u z hv hu hl
 obtain ⟨A, c, rfl, _, _, _⟩ := hv.form
 obtain ⟨A2, c2, rfl, _, _, _⟩ := hu.form
 refine eP k24 ?_
 refine gO ?_
 repeat (simp only [seval, go_sem, beq_self_eq_true, decide_true]; refine gO ?_)
 refine tT ?_; refine callP (hc) rfl rfl ?_; rintro _ _ - ⟨rfl, rfl⟩; refine gO ?_
 repeat (simp only [seval, go_sem, beq_self_eq_true, decide_true]; refine gO ?_)
 (first|refine fN ?_|exact fZ)
theorem lictx (t : CTx) (v u : Value) (z : Zc) (hv : Sl pRep z t.queue v) (hu : Sl pRep z t.queue u) (hl : t.queue.length ≤ 1000) (hp : ∀ p ∈ t.queue, p.data.length ≤ 100) : PSpec Tryz.prog 23 [vCTx t v, vCTx t u] z fun w z' => w = .bool true ∧ z = z' := by
 have hc := liparts t.queue v u z hv hu hl hp
 obtain ⟨A1, k1, _, rfl, _⟩ := hv
 obtain ⟨A2, k2, _, rfl, _⟩ := hu
 refine eP k23 ?_
 refine gO ?_
 repeat (simp only [seval, go_sem, beq_self_eq_true, decide_true]; refine gO ?_)
 refine tT ?_; refine callP (hc) rfl rfl ?_; rintro _ _ - ⟨rfl, rfl⟩; refine gO ?_
 repeat (simp only [seval, go_sem, beq_self_eq_true, decide_true]; refine gO ?_)
 (first|refine fN ?_|exact fZ)
theorem PartsI.small {c : Cfg} {l : List Part} (h : PartsI c l) : ∀ p ∈ l, p.data.length ≤ 100 := fun p hp => by
 have h1 := (h p hp).1
 unfold partOk at h1
 rw [pieceOk_iff] at h1
 omega
theorem liend (c : Cfg) (e : End) (m m' : EndM) (z : Zc) (h : EndP z e m) (h' : EndP z e m') (hI : EndI c e) : PSpec Tryz.prog 26 [.agg (endL e m).toArray, .agg (endL e m').toArray] z fun w z' => w = .bool true ∧ z = z' := by
 have hw := hI.tx.win
 have hc4 := hI.tx.cfg.win
 have hq := hI.tx.queue
 have hq2 := hI.ctx.queue
 have hj := hI.rx.join.le
 have hj2 := hI.crx.2.le
 have hp := hI.put
 have hg' := hI.got
 have c1 := litx e.tx _ _ _ _ z h.fl h.qu h'.fl h'.qu (by omega) (by omega) hI.tx.fl.small hI.tx.qu.small
 have c2 := lirx e.rx _ _ z h.jo h'.jo (by omega)
 have c3 := lictx e.ctx _ _ z h.cq h'.cq (by omega) hI.ctx.qu.small
 have c4 := licrx e.crx _ _ z h.kj h'.kj (by omega)
 have c5 := lisdus e.put e.put _ _ z h.pu h'.pu (by have := hp.1; omega) (by have := hp.1; omega) (fun x hx => by have := hp.2 x hx; omega) (fun x hx => by have := hp.2 x hx; omega)
 have c6 := lisdus e.got e.got _ _ z h.go h'.go (by have := hg'.1; omega) (by have := hg'.1; omega) (fun x hx => by have := hg'.2 x hx; omega) (fun x hx => by have := hg'.2 x hx; omega)
 simp only [decide_true] at c5 c6
 refine eP k26 ?_
 refine gO ?_
 refine tT ?_; refine callP (c1) rfl rfl ?_; rintro _ _ - ⟨rfl, rfl⟩; refine gO ?_
 refine tT ?_; refine callP (c2) rfl rfl ?_; rintro _ _ - ⟨rfl, rfl⟩; refine gO ?_
 refine tT ?_; refine callP (c3) rfl rfl ?_; rintro _ _ - ⟨rfl, rfl⟩; refine gO ?_
 refine tT ?_; refine callP (c4) rfl rfl ?_; rintro _ _ - ⟨rfl, rfl⟩; refine gO ?_
 refine tT ?_; refine callP (c5) rfl rfl ?_; rintro _ _ - ⟨rfl, rfl⟩; refine gO ?_
 refine tT ?_; refine callP (c6) rfl rfl ?_; rintro _ _ - ⟨rfl, rfl⟩; refine gO ?_
 (first|refine fN ?_|exact fZ)
theorem linet (l : List Msg) (v u : Value) (z : Zc) (hv : Sl mRep z l v) (hu : Sl mRep z l u) (hl : l.length ≤ 1000) (hp : ∀ p ∈ l, p.bytes.length ≤ 100) : PSpec Tryz.prog 28 [v, u] z fun w z' => w = .bool true ∧ z = z' := by
 obtain ⟨A, c, cs, rfl, hc, he, hr⟩ := hv
 obtain ⟨A2, c2, cs2, rfl, hc2, he2, hr2⟩ := hu
 have dn : ((l.length : Int) != (l.length : Int)) = false := bne_self_eq_false _
 refine eP k28 ?_
 refine gO ?_
 repeat (simp only [seval, go_sem, dn]; refine gO ?_)
 refine loop_upd (ι := Nat) (n := 0) (fun i => i ≤ l.length) (fun i => [(5, .c (.v (.int .i64 i)))]) (fun _ => []) (fun _ => z) (fun i => l.length - i) 0 (by omega) (by (simp only [wrI, wrR, anyL, st, List.append_nil, List.nil_append, List.cons_append]); exact rfl) ?_ ?_
 ·exact lE
 ·intro i hi
  refine gO ?_
  (with_reducible refine condI.split (fun hg => ?_) (fun hg => ?_) <;> (try simp only [hg]) <;> (try simp only [seval, go_sem]))
  ·have hi' : i < l.length := by have := of_decide_eq_true hg; omega
   obtain ⟨x, hx⟩ : ∃ x, l[i]? = some x := ⟨_, List.getElem?_eq_getElem hi'⟩
   obtain ⟨c1, ⟨v, rfl, hb⟩, hr1⟩ := he.at hr hx
   obtain ⟨c3, ⟨u, rfl, hb2⟩, hr3⟩ := he2.at hr2 hx
   have h1 := he.isAt hr (by decide) hi'
   have h2 := he2.isAt hr2 (by decide) hi'
   have hx1 := hp x (List.mem_of_getElem? hx)
   have hcb := libytes x.bytes x.bytes v u z hb hb2 (by omega) (by omega)
   simp only [decide_true] at hcb
   obtain ⟨A3, k3, rfl, _, _, _⟩ := hb.form
   obtain ⟨A4, k4, rfl, _, _, _⟩ := hb2.form
   refine gO ?_
   (refine ⟨⟨by omega, by omega, h1⟩, ?_⟩; (try simp only [seval, go_sem]))
   (refine ldF.one _ (by first | exact .inl (hr1.cell 0 rfl) | exact (hr1.cell 0 rfl)) ?_; (try simp only [seval, go_sem]))
   (refine ⟨⟨by omega, by omega, h2⟩, ?_⟩; (try simp only [seval, go_sem]))
   (refine ldF.one _ (by first | exact .inl (hr3.cell 0 rfl) | exact (hr3.cell 0 rfl)) ?_; (try simp only [seval, go_sem]))
   repeat (simp only [seval, go_sem, bne_self_eq_false]; refine gO ?_)
   (refine ⟨⟨by omega, by omega, h1⟩, ?_⟩; (try simp only [seval, go_sem]))
   (refine ldF.one _ (by first | exact .inl (hr1.cell 1 rfl) | exact (hr1.cell 1 rfl)) ?_; (try simp only [seval, go_sem]))
   (refine ⟨⟨by omega, by omega, h2⟩, ?_⟩; (try simp only [seval, go_sem]))
   (refine ldF.one _ (by first | exact .inl (hr3.cell 1 rfl) | exact (hr3.cell 1 rfl)) ?_; (try simp only [seval, go_sem]))
   refine tT ?_; refine callP (hcb) rfl rfl ?_; rintro _ _ - ⟨rfl, rfl⟩; refine gO ?_
   refine gO ?_
   refine ⟨i + 1, by omega, by omega, ?_⟩
   exact lE
  ·refine gO ?_
   (first|refine fN ?_|exact fZ)
abbrev tyWw : Nat := 31
abbrev wldEw (c : Cfg) (link : Int) (m : WM) : List SC := [.v (.int .i64 c.mode), .v (.int .i64 c.win), .v (.int .i64 c.mps), .v (.int .i64 c.mtu), .v (.int .i64 c.tri), .v (.slice m.E 2 m.EC), .v (.slice m.N 2 m.NC), .v (.int .i64 link)]
theorem liworld (c : Cfg) (link : Int) (e0 e1 : End) (n0 n1 : List Msg) (m m' : WM) (z : Zc) (h : WldP z e0 e1 n0 n1 m) (h' : WldP z e0 e1 n0 n1 m') (hW : WldI ⟨c, [e0, e1], [n0, n1], link⟩) : PSpec Tryz.prog 27 [wldV c link m, wldV c link m'] z fun w z' => w = .bool true ∧ z = z' := by
 have b1 : (link != link) = false := bne_self_eq_false _
 have i0 : EndI c e0 := hW.ends 0 (by omega)
 have i1 : EndI c e1 := hW.ends 1 (by omega)
 have j0 : NetI n0 := hW.net 0 (by omega)
 have j1 : NetI n1 := hW.net 1 (by omega)
 have c0 := liend c e0 m.m0 m'.m0 z h.e0 h'.e0 i0
 have c1 := liend c e1 m.m1 m'.m1 z h.e1 h'.e1 i1
 have c2 := linet n0 _ _ z h.n0 h'.n0 (by have := j0.1; omega) (fun x hx => by have := j0.2 x hx; omega)
 have c3 := linet n1 _ _ z h.n1 h'.n1 (by have := j1.1; omega) (fun x hx => by have := j1.2 x hx; omega)
 refine eP k27 ?_
 refine gO ?_
 (try with_reducible refine othM.toT ?_); refine oth_neqS rfl rfl rfl (by kernel_rfl) (eq_cfg _ _ _ _ _) ?_; refine gO ?_
 repeat (simp only [seval, go_sem, b1]; refine gO ?_)
 refine loop_upd (ι := Nat) (n := 2) (fun k => k ≤ 2) (fun k => [(5, .c (.v (.int .i64 k)))]) (fun _ => [(0, .cells tyWw (wldEw c link m)), (1, .cells tyWw (wldEw c link m'))]) (fun _ => z) (fun k => 2 - k) 0 (by omega) (by (simp only [wrI, wrR, anyL, st, List.append_nil, List.nil_append, List.cons_append]); exact rfl) ?_ ?_
 ·simp only [wldEw]
  exact lX
 ·intro k hk
  simp only [wldEw]
  have hk3 : k = 0 ∨ k = 1 ∨ k = 2 := by omega
  rcases hk3 with rfl | rfl | rfl
  ·refine gO ?_
   ((first | refine ⟨⟨by omega, h.atE⟩, ?_⟩ | refine ⟨h.atE, ?_⟩); (try simp only [seval, go_sem]))
   (refine ldF.agg _ rfl (by first | exact .inl h.all0 | exact h.all0) ?_; (try simp only [seval, go_sem]))
   ((first | refine ⟨⟨by omega, h'.atE⟩, ?_⟩ | refine ⟨h'.atE, ?_⟩); (try simp only [seval, go_sem]))
   (refine ldF.agg _ rfl (by first | exact .inl h'.all0 | exact h'.all0) ?_; (try simp only [seval, go_sem]))
   refine tT ?_; refine callP (c0) rfl rfl ?_; rintro _ _ - ⟨rfl, rfl⟩; refine gO ?_
   refine gO ?_
   refine ⟨1, by omega, by omega, ?_⟩
   exact lX
  ·refine gO ?_
   ((first | refine ⟨⟨by omega, h.atE⟩, ?_⟩ | refine ⟨h.atE, ?_⟩); (try simp only [seval, go_sem]))
   (refine ldF.agg _ rfl (by first | exact .inl h.all1 | exact h.all1) ?_; (try simp only [seval, go_sem]))
   ((first | refine ⟨⟨by omega, h'.atE⟩, ?_⟩ | refine ⟨h'.atE, ?_⟩); (try simp only [seval, go_sem]))
   (refine ldF.agg _ rfl (by first | exact .inl h'.all1 | exact h'.all1) ?_; (try simp only [seval, go_sem]))
   refine tT ?_; refine callP (c1) rfl rfl ?_; rintro _ _ - ⟨rfl, rfl⟩; refine gO ?_
   refine gO ?_
   refine ⟨2, by omega, by omega, ?_⟩
   exact lX
  ·refine gO ?_
   refine loop_upd (ι := Nat) (n := 2) (fun k => k ≤ 2) (fun k => [(6, .c (.v (.int .i64 k)))]) (fun _ => [(0, .cells tyWw (wldEw c link m)), (1, .cells tyWw (wldEw c link m'))]) (fun _ => z) (fun k => 2 - k) 0 (by omega) (by (simp only [wrI, wrR, anyL, st, List.append_nil, List.nil_append, List.cons_append]); exact rfl) ?_ ?_
   ·simp only [wldEw]
    exact lX
   ·intro k hk
    simp only [wldEw]
    have hk3 : k = 0 ∨ k = 1 ∨ k = 2 := by omega
    rcases hk3 with rfl | rfl | rfl
    ·refine gO ?_
     ((first | refine ⟨⟨by omega, h.atN⟩, ?_⟩ | refine ⟨h.atN, ?_⟩); (try simp only [seval, go_sem]))
     (refine ldF.one _ (by first | exact .inl (h.N.cell 0 rfl) | exact (h.N.cell 0 rfl)) ?_; (try simp only [seval, go_sem]))
     ((first | refine ⟨⟨by omega, h'.atN⟩, ?_⟩ | refine ⟨h'.atN, ?_⟩); (try simp only [seval, go_sem]))
     (refine ldF.one _ (by first | exact .inl (h'.N.cell 0 rfl) | exact (h'.N.cell 0 rfl)) ?_; (try simp only [seval, go_sem]))
     refine tT ?_; refine callP (c2) rfl rfl ?_; rintro _ _ - ⟨rfl, rfl⟩; refine gO ?_
     refine gO ?_
     refine ⟨1, by omega, by omega, ?_⟩
     exact lX
    ·refine gO ?_
     ((first | refine ⟨⟨by omega, h.atN⟩, ?_⟩ | refine ⟨h.atN, ?_⟩); (try simp only [seval, go_sem]))
     (refine ldF.one _ (by first | exact .inl (h.N.cell 1 rfl) | exact (h.N.cell 1 rfl)) ?_; (try simp only [seval, go_sem]))
     ((first | refine ⟨⟨by omega, h'.atN⟩, ?_⟩ | refine ⟨h'.atN, ?_⟩); (try simp only [seval, go_sem]))
     (refine ldF.one _ (by first | exact .inl (h'.N.cell 1 rfl) | exact (h'.N.cell 1 rfl)) ?_; (try simp only [seval, go_sem]))
     refine tT ?_; refine callP (c3) rfl rfl ?_; rintro _ _ - ⟨rfl, rfl⟩; refine gO ?_
     refine gO ?_
     refine ⟨2, by omega, by omega, ?_⟩
     exact lX
    ·refine gO ?_
     (first|refine fN ?_|exact fZ)
end Go.Proofs.YtllafcmkppmdgaaGreat
