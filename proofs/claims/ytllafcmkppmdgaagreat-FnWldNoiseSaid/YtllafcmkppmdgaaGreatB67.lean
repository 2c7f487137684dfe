import Derived.Test.YtllafcmkppmdgaaGreatB6
import Derived.Test.YtllafcmkppmdgaaGreatProg
import Derived.Test.YtllafcmkppmdgaaGreatB13
import Derived.Test.YtllafcmkppmdgaaGreatB12
import Derived.Test.YtllafcmkppmdgaaGreatB22
import Derived.Laws.StructEq
import Derived.ChangeKeysEq
import Derived.Test.YtllafcmkppmdgaaGreatB21
import Derived.Test.YtllafcmkppmdgaaGreatB15
import Derived.Test.YtllafcmkppmdgaaGreatRows
import Derived.WalkKit
import Derived.ProofKit
import Derived.OpenShut
import Derived.ShutString
import Derived.ChangeOld
import Derived.Below
import Derived.SizedLaws
namespace Go.Proofs.YtllafcmkppmdgaaGreat
open Go.RowKit
set_option linter.unusedVariables false
set_option linter.unusedSimpArgs false
set_option maxRecDepth 100000
set_option maxHeartbeats 4000000
set_option linter.defProp false
def k21 := mkK [(.t 4)] [] [] Tryz.func21 Tryz.ntmps21 rfl
def k75 := mkK [(.t 4)] [] [] Tryz.func75 Tryz.ntmps75 rfl
def k27 := mkK [(.t 4)] [] [(6,[],.l [0,5,8,12,17,20,25,28,32,37,42,44]),(11,[],.l [0,5,8,12,17,20,25,28,32,37,42,44])] Tryz.func27 Tryz.ntmps27 rfl
def k26 := mkK [(.t 4)] [] [] Tryz.func26 Tryz.ntmps26 rfl
def k28 := mkK [(.t 4)] [] [(6,[],.l [0,4,8,12,17,20,24,28,32,37,40,44,48,52,56,60,65,68,72,76,80,85,90,92,96])] Tryz.func28 Tryz.ntmps28 rfl
def k22 := mkK [(.t 4)] [] [] Tryz.func22 Tryz.ntmps22 rfl
def k25 := mkK [(.t 4)] [] [] Tryz.func25 Tryz.ntmps25 rfl
def k23 := mkK [(.t 4)] [] [] Tryz.func23 Tryz.ntmps23 rfl
def k24 := mkK [(.t 4)] [] [] Tryz.func24 Tryz.ntmps24 rfl
def k47 := mkK [(.t 4)] [] [(6,[],.l [0,4,8,13,16,20,24,29,34,36])] Tryz.func47 Tryz.ntmps47 rfl
def k48 := mkK [(.t 4)] [] [] Tryz.func48 Tryz.ntmps48 rfl
def k20 := mkK [(.c 4 8 true)] [] [] Tryz.func20 Tryz.ntmps20 rfl
theorem oth_neqS {P : Program} {s : St} {K : St → Prop} {d : Option Nat} {ty ty' : TypeId} {x y : Operand} {cs : List SC} {vs : List Value} (hx : ev s.t x = .a cs) (hy : ev s.t y = .a cs) (hv : allV cs = some vs) (hg : P.eqGuardType P.depth ty = false)
  (he : ∀ w : World,(Op.equalIn 10000 ty (.agg vs.toArray) (.agg vs.toArray)).run P w = .ok true w) (hK : K ⟨stO s.t d (.c (.v (.bool false))),s.L,s.z,s.n⟩) : othM P (.binOp .neq ty x y ty') d s K := fun o ho hd C ρ a w Q hs => by
 subst hd
 have h1 : a.eval x = .agg vs.toArray := by
  have := ev_den hs.fr x
  rw [hx] at this
  obtain ⟨us,h2,h3⟩ := this
  rw [h3,allV_den hv h2]
 have h2 : a.eval y = .agg vs.toArray := by
  have := ev_den hs.fr y
  rw [hy] at this
  obtain ⟨us,h2,h3⟩ := this
  rw [h3,allV_den hv h2]
 refine wp_value (w' := w) (v := .bool false) ?_ ⟨_,ρ,hK,hs.put o.dst rfl,Stp.same⟩
 unfold execOp
 simp only [ho]
 refine run_v ?_
 rw [h1,h2,Sem.run_bind,run_eqGuard_agg w _ _ _ _ _ _ hg,Result.andThen_ok,run_neq_struct,he]
 rfl
abbrev tyC : Nat := 24
theorem eqF_self {P : Program} (d : Nat) (xs : Array Value) (w : World) : ∀ fs : List Field,(∀ f ∈ fs,P.plainKey f.type = true ∧ ∃ k k' a,P.underlying f.type = some (.int k') ∧ xs[f.offset]? = some (.int k a)) → (Op.eqFields (d + 1) xs xs fs).run P w = .ok true w
 | [],_ => by simp [Op.eqFields]
 | f :: fs,h => by
  obtain ⟨h1,k,k',a,h2,h3⟩ := h f List.mem_cons_self
  have ih := eqF_self d xs w fs fun g hg => h g (List.mem_cons_of_mem _ hg)
  unfold Op.eqFields
  split
  ·rw [Sem.run_bind,run_part_plain w h1 h3,Result.andThen_ok,Sem.run_bind,run_part_plain w h1 h3,Result.andThen_ok,Sem.run_bind,run_equalIn_int w d _ k k' a a h2,Result.andThen_ok]
   simpa using ih
  ·exact ih
def intF (P : Program) (f : Field) : Bool := P.plainKey f.type && decide (f.offset < 5) && match P.underlying f.type with | some (.int _) => true | _ => false
theorem eq_cfg (a b c d e : Int) (w : World) : (Op.equalIn 10000 tyC (.agg #[.int .i64 a,.int .i64 b,.int .i64 c,.int .i64 d,.int .i64 e]) (.agg #[.int .i64 a,.int .i64 b,.int .i64 c,.int .i64 d,.int .i64 e])).run Tryz.prog w = .ok true w := by
 rw [run_equalIn_agg w 9999 tyC _ _ (by kernel_rfl) (by kernel_rfl)]
 refine eqF_self 9998 _ w _ fun f hf => ?_
 have hall : (Tryz.prog.fieldsOf tyC).toList.all (intF Tryz.prog) = true := by kernel_rfl
 have h := List.all_eq_true.1 hall f hf
 unfold intF at h
 simp only [Bool.and_eq_true,decide_eq_true_eq] at h
 obtain ⟨⟨h1,h2⟩,h3⟩ := h
 refine ⟨h1,?_⟩
 split at h3
 ·rename_i k hk
  have h5 : f.offset = 0 ∨ f.offset = 1 ∨ f.offset = 2 ∨ f.offset = 3 ∨ f.offset = 4 := by omega
  rcases h5 with h5 | h5 | h5 | h5 | h5 <;> rw [h5] <;> exact ⟨_,k,_,hk,rfl⟩
 ·cases h3
theorem lipart (p : Part) (v u : Value) (z : Zc) (hv : By z p.data v) (hu : By z p.data u) (hl : p.data.length ≤ 100) : PSpec Tryz.prog 75 [vPart p v,vPart p u] z fun w z' => w = .bool true ∧ z = z' := by
 have hc := libytes p.data p.data v u z hv hu (by omega) (by omega)
 obtain ⟨A,c,rfl,_,_,_⟩ := hv.form
 obtain ⟨A2,c2,rfl,_,_,_⟩ := hu.form
 refine eP k75 ?_
 refine gO ?_
 repeat (simp only [seval,go_sem,beq_self_eq_true];refine gO ?_)
 refine tT ?_;refine callP (hc) rfl rfl ?_;rintro _ _ - ⟨rfl,rfl⟩;refine gO ?_
 try simp only [seval,go_sem,decide_true]
 (first|refine fN ?_|exact fZ)
theorem liparts (l : List Part) (v u : Value) (z : Zc) (hv : Sl pRep z l v) (hu : Sl pRep z l u) (hl : l.length ≤ 1000) (hp : ∀ p ∈ l,p.data.length ≤ 100) : PSpec Tryz.prog 47 [v,u] z fun w z' => w = .bool true ∧ z = z' := by
 obtain ⟨A,c,cs,rfl,hc,he,hr⟩ := hv
 obtain ⟨A2,c2,cs2,rfl,hc2,he2,hr2⟩ := hu
 have dn : ((l.length : Int) != (l.length : Int)) = false := bne_self_eq_false _
 refine eP k47 ?_
 refine gO ?_
 repeat (simp only [seval,go_sem,dn];refine gO ?_)
 refine loop_upd (ι := Nat) (n := 0) (fun i => i ≤ l.length) (fun i => [(5,.c (.v (.int .i64 i)))]) (fun _ => []) (fun _ => z) (fun i => l.length - i) 0 (by omega) (by (simp only [wrI,wrR,anyL,st,List.append_nil,List.nil_append,List.cons_append]);exact rfl) ?_ ?_
 ·exact lE
 ·intro i hi
  refine gO ?_
  (with_reducible refine condI.split (fun hg => ?_) (fun hg => ?_) <;> (try simp only [hg]) <;> (try simp only [seval,go_sem]))
  ·have hi' : i < l.length := by have := of_decide_eq_true hg;omega
   obtain ⟨x,hx⟩ : ∃ x,l[i]? = some x := ⟨_,List.getElem?_eq_getElem hi'⟩
   obtain ⟨c1,⟨v,rfl,hb⟩,hr1⟩ := he.at hr hx
   obtain ⟨c3,⟨u,rfl,hb2⟩,hr3⟩ := he2.at hr2 hx
   have h1 := he.isAt hr (by decide) hi'
   have h2 := he2.isAt hr2 (by decide) hi'
   obtain ⟨A3,k3,rfl,_,_,_⟩ := hb.form
   obtain ⟨A4,k4,rfl,_,_,_⟩ := hb2.form
   refine gO ?_
   (refine ⟨⟨by omega,by omega,h1⟩,?_⟩;(try simp only [seval,go_sem]))
   (refine ldF.agg _ rfl (by first | exact .inl hr1 | exact hr1) ?_;(try simp only [seval,go_sem]))
   (refine ⟨⟨by omega,by omega,h2⟩,?_⟩;(try simp only [seval,go_sem]))
   (refine ldF.agg _ rfl (by first | exact .inl hr3 | exact hr3) ?_;(try simp only [seval,go_sem]))
   refine tT ?_;refine callP (lipart x _ _ z hb hb2 (hp x (List.mem_of_getElem? hx))) rfl rfl ?_;rintro _ _ - ⟨rfl,rfl⟩;refine gO ?_
   refine gO ?_
   refine ⟨i + 1,by omega,by omega,?_⟩
   exact lE
  ·refine gO ?_
   (first|refine fN ?_|exact fZ)
theorem litx (t : Tx) (f q f' q' : Value) (z : Zc) (h1 : Sl pRep z t.flight f) (h2 : Sl pRep z t.queue q) (h3 : Sl pRep z t.flight f') (h4 : Sl pRep z t.queue q') (l1 : t.flight.length ≤ 1000) (l2 : t.queue.length ≤ 1000) (p1 : ∀ p ∈ t.flight,p.data.length ≤ 100) (p2 : ∀ p ∈ t.queue,p.data.length ≤ 100) : PSpec Tryz.prog 22 [vTx t f q,vTx t f' q'] z fun w z' => w = .bool true ∧ z = z' := by
 have c1 := liparts t.flight f f' z h1 h3 l1 p1
 have c2 := liparts t.queue q q' z h2 h4 l2 p2
 obtain ⟨A1,k1,_,rfl,_⟩ := h1
 obtain ⟨A2,k2,_,rfl,_⟩ := h2
 obtain ⟨A3,k3,_,rfl,_⟩ := h3
 obtain ⟨A4,k4,_,rfl,_⟩ := h4
 refine eP k22 ?_
 refine gO ?_
 repeat (simp only [seval,go_sem,beq_self_eq_true,decide_true];refine gO ?_)
 refine tT ?_;refine callP (c1) rfl rfl ?_;rintro _ _ - ⟨rfl,rfl⟩;refine gO ?_
 repeat (simp only [seval,go_sem,beq_self_eq_true,decide_true];refine gO ?_)
 refine tT ?_;refine callP (c2) rfl rfl ?_;rintro _ _ - ⟨rfl,rfl⟩;refine gO ?_
 repeat (simp only [seval,go_sem,beq_self_eq_true,decide_true];refine gO ?_)
 (first|refine fN ?_|exact fZ)
theorem lijoin (j : Join) (v u : Value) (z : Zc) (hv : By z j.got v) (hu : By z j.got u) (hl : j.got.length ≤ 100) : PSpec Tryz.prog 48 [vJoin j v,vJoin j u] z fun w z' => w = .bool true ∧ z = z' := by
 have hc := libytes j.got j.got v u z hv hu (by omega) (by omega)
 obtain ⟨A,c,rfl,_,_,_⟩ := hv.form
 obtain ⟨A2,c2,rfl,_,_,_⟩ := hu.form
 refine eP k48 ?_
 refine gO ?_
 repeat (simp only [seval,go_sem,beq_self_eq_true];refine gO ?_)
 refine tT ?_;refine callP (hc) rfl rfl ?_;rintro _ _ - ⟨rfl,rfl⟩;refine gO ?_
 try simp only [seval,go_sem,decide_true]
 (first|refine fN ?_|exact fZ)
theorem lirx (r : Rx) (v u : Value) (z : Zc) (hv : By z r.join.got v) (hu : By z r.join.got u) (hl : r.join.got.length ≤ 100) : PSpec Tryz.prog 25 [vRx r v,vRx r u] z fun w z' => w = .bool true ∧ z = z' := by
 have hc := lijoin r.join v u z hv hu hl
 obtain ⟨A,c,rfl,_,_,_⟩ := hv.form
 obtain ⟨A2,c2,rfl,_,_,_⟩ := hu.form
 refine eP k25 ?_
 refine gO ?_
 repeat (simp only [seval,go_sem,beq_self_eq_true,decide_true];refine gO ?_)
 refine tT ?_;refine callP (hc) rfl rfl ?_;rintro _ _ - ⟨rfl,rfl⟩;refine gO ?_
 repeat (simp only [seval,go_sem,beq_self_eq_true,decide_true];refine gO ?_)
 (first|refine fN ?_|exact fZ)
theorem licrx (r : CRx) (v u : Value) (z : Zc) (hv : By z r.join.got v) (hu : By z r.join.got u) (hl : r.join.got.length ≤ 100) : PSpec Tryz.prog 24 [vCRx r v,vCRx r u] z fun w z' => w = .bool true ∧ z = z' := by
 have hc := lijoin r.join v u z hv hu hl
 obtain ⟨A,c,rfl,_,_,_⟩ := hv.form
 obtain ⟨A2,c2,rfl,_,_,_⟩ := hu.form
 refine eP k24 ?_
 refine gO ?_
 repeat (simp only [seval,go_sem,beq_self_eq_true,decide_true];refine gO ?_)
 refine tT ?_;refine callP (hc) rfl rfl ?_;rintro _ _ - ⟨rfl,rfl⟩;refine gO ?_
 repeat (simp only [seval,go_sem,beq_self_eq_true,decide_true];refine gO ?_)
 (first|refine fN ?_|exact fZ)
theorem lictx (t : CTx) (v u : Value) (z : Zc) (hv : Sl pRep z t.queue v) (hu : Sl pRep z t.queue u) (hl : t.queue.length ≤ 1000) (hp : ∀ p ∈ t.queue,p.data.length ≤ 100) : PSpec Tryz.prog 23 [vCTx t v,vCTx t u] z fun w z' => w = .bool true ∧ z = z' := by
 have hc := liparts t.queue v u z hv hu hl hp
 obtain ⟨A1,k1,_,rfl,_⟩ := hv
 obtain ⟨A2,k2,_,rfl,_⟩ := hu
 refine eP k23 ?_
 refine gO ?_
 repeat (simp only [seval,go_sem,beq_self_eq_true,decide_true];refine gO ?_)
 refine tT ?_;refine callP (hc) rfl rfl ?_;rintro _ _ - ⟨rfl,rfl⟩;refine gO ?_
 repeat (simp only [seval,go_sem,beq_self_eq_true,decide_true];refine gO ?_)
 (first|refine fN ?_|exact fZ)
theorem PartsI.small {c : Cfg} {l : List Part} (h : PartsI c l) : ∀ p ∈ l,p.data.length ≤ 100 := fun p hp => by
 have h1 := (h p hp).1
 unfold partOk at h1
 rw [pieceOk_iff] at h1
 omega
theorem liend (c : Cfg) (e : End) (m m' : EndM) (z : Zc) (h : EndP z e m) (h' : EndP z e m') (hI : EndI c e) : PSpec Tryz.prog 26 [.agg (endL e m).toArray,.agg (endL e m').toArray] z fun w z' => w = .bool true ∧ z = z' := by
 have hw := hI.tx.win
 have hc4 := hI.tx.cfg.win
 have hq := hI.tx.queue
 have hq2 := hI.ctx.queue
 have hj := hI.rx.join.le
 have hj2 := hI.crx.2.le
 have hp := hI.put
 have hg' := hI.got
 have c1 := litx e.tx _ _ _ _ z h.fl h.qu h'.fl h'.qu (by omega) (by omega) hI.tx.fl.small hI.tx.qu.small
 have c2 := lirx e.rx _ _ z h.jo h'.jo (by omega)
 have c3 := lictx e.ctx _ _ z h.cq h'.cq (by omega) hI.ctx.qu.small
 have c4 := licrx e.crx _ _ z h.kj h'.kj (by omega)
 have c5 := lisdus e.put e.put _ _ z h.pu h'.pu (by have := hp.1;omega) (by have := hp.1;omega) (fun x hx => by have := hp.2 x hx;omega) (fun x hx => by have := hp.2 x hx;omega)
 have c6 := lisdus e.got e.got _ _ z h.go h'.go (by have := hg'.1;omega) (by have := hg'.1;omega) (fun x hx => by have := hg'.2 x hx;omega) (fun x hx => by have := hg'.2 x hx;omega)
 simp only [decide_true] at c5 c6
 refine eP k26 ?_
 refine gO ?_
 refine tT ?_;refine callP (c1) rfl rfl ?_;rintro _ _ - ⟨rfl,rfl⟩;refine gO ?_
 refine tT ?_;refine callP (c2) rfl rfl ?_;rintro _ _ - ⟨rfl,rfl⟩;refine gO ?_
 refine tT ?_;refine callP (c3) rfl rfl ?_;rintro _ _ - ⟨rfl,rfl⟩;refine gO ?_
 refine tT ?_;refine callP (c4) rfl rfl ?_;rintro _ _ - ⟨rfl,rfl⟩;refine gO ?_
 refine tT ?_;refine callP (c5) rfl rfl ?_;rintro _ _ - ⟨rfl,rfl⟩;refine gO ?_
 refine tT ?_;refine callP (c6) rfl rfl ?_;rintro _ _ - ⟨rfl,rfl⟩;refine gO ?_
 (first|refine fN ?_|exact fZ)
theorem linet (l : List Msg) (v u : Value) (z : Zc) (hv : Sl mRep z l v) (hu : Sl mRep z l u) (hl : l.length ≤ 1000) (hp : ∀ p ∈ l,p.bytes.length ≤ 100) : PSpec Tryz.prog 28 [v,u] z fun w z' => w = .bool true ∧ z = z' := by
 obtain ⟨A,c,cs,rfl,hc,he,hr⟩ := hv
 obtain ⟨A2,c2,cs2,rfl,hc2,he2,hr2⟩ := hu
 have dn : ((l.length : Int) != (l.length : Int)) = false := bne_self_eq_false _
 refine eP k28 ?_
 refine gO ?_
 repeat (simp only [seval,go_sem,dn];refine gO ?_)
 refine loop_upd (ι := Nat) (n := 0) (fun i => i ≤ l.length) (fun i => [(5,.c (.v (.int .i64 i)))]) (fun _ => []) (fun _ => z) (fun i => l.length - i) 0 (by omega) (by (simp only [wrI,wrR,anyL,st,List.append_nil,List.nil_append,List.cons_append]);exact rfl) ?_ ?_
 ·exact lE
 ·intro i hi
  refine gO ?_
  (with_reducible refine condI.split (fun hg => ?_) (fun hg => ?_) <;> (try simp only [hg]) <;> (try simp only [seval,go_sem]))
  ·have hi' : i < l.length := by have := of_decide_eq_true hg;omega
   obtain ⟨x,hx⟩ : ∃ x,l[i]? = some x := ⟨_,List.getElem?_eq_getElem hi'⟩
   obtain ⟨c1,⟨v,rfl,hb⟩,hr1⟩ := he.at hr hx
   obtain ⟨c3,⟨u,rfl,hb2⟩,hr3⟩ := he2.at hr2 hx
   have h1 := he.isAt hr (by decide) hi'
   have h2 := he2.isAt hr2 (by decide) hi'
   have hx1 := hp x (List.mem_of_getElem? hx)
   have hcb := libytes x.bytes x.bytes v u z hb hb2 (by omega) (by omega)
   simp only [decide_true] at hcb
   obtain ⟨A3,k3,rfl,_,_,_⟩ := hb.form
   obtain ⟨A4,k4,rfl,_,_,_⟩ := hb2.form
   refine gO ?_
   (refine ⟨⟨by omega,by omega,h1⟩,?_⟩;(try simp only [seval,go_sem]))
   (refine ldF.one _ (by first | exact .inl (hr1.cell 0 rfl) | exact (hr1.cell 0 rfl)) ?_;(try simp only [seval,go_sem]))
   (refine ⟨⟨by omega,by omega,h2⟩,?_⟩;(try simp only [seval,go_sem]))
   (refine ldF.one _ (by first | exact .inl (hr3.cell 0 rfl) | exact (hr3.cell 0 rfl)) ?_;(try simp only [seval,go_sem]))
   repeat (simp only [seval,go_sem,bne_self_eq_false];refine gO ?_)
   (refine ⟨⟨by omega,by omega,h1⟩,?_⟩;(try simp only [seval,go_sem]))
   (refine ldF.one _ (by first | exact .inl (hr1.cell 1 rfl) | exact (hr1.cell 1 rfl)) ?_;(try simp only [seval,go_sem]))
   (refine ⟨⟨by omega,by omega,h2⟩,?_⟩;(try simp only [seval,go_sem]))
   (refine ldF.one _ (by first | exact .inl (hr3.cell 1 rfl) | exact (hr3.cell 1 rfl)) ?_;(try simp only [seval,go_sem]))
   refine tT ?_;refine callP (hcb) rfl rfl ?_;rintro _ _ - ⟨rfl,rfl⟩;refine gO ?_
   refine gO ?_
   refine ⟨i + 1,by omega,by omega,?_⟩
   exact lE
  ·refine gO ?_
   (first|refine fN ?_|exact fZ)
abbrev tyWw : Nat := 31
abbrev wldEw (c : Cfg) (link : Int) (m : WM) : List SC := [.v (.int .i64 c.mode),.v (.int .i64 c.win),.v (.int .i64 c.mps),.v (.int .i64 c.mtu),.v (.int .i64 c.tri),.v (.slice m.E 2 m.EC),.v (.slice m.N 2 m.NC),.v (.int .i64 link)]
theorem liworld (c : Cfg) (link : Int) (e0 e1 : End) (n0 n1 : List Msg) (m m' : WM) (z : Zc) (h : WldP z e0 e1 n0 n1 m) (h' : WldP z e0 e1 n0 n1 m') (hW : WldI ⟨c,[e0,e1],[n0,n1],link⟩) : PSpec Tryz.prog 27 [wldV c link m,wldV c link m'] z fun w z' => w = .bool true ∧ z = z' := by
 have b1 : (link != link) = false := bne_self_eq_false _
 have i0 : EndI c e0 := hW.ends 0 (by omega)
 have i1 : EndI c e1 := hW.ends 1 (by omega)
 have j0 : NetI n0 := hW.net 0 (by omega)
 have j1 : NetI n1 := hW.net 1 (by omega)
 have c0 := liend c e0 m.m0 m'.m0 z h.e0 h'.e0 i0
 have c1 := liend c e1 m.m1 m'.m1 z h.e1 h'.e1 i1
 have c2 := linet n0 _ _ z h.n0 h'.n0 (by have := j0.1;omega) (fun x hx => by have := j0.2 x hx;omega)
 have c3 := linet n1 _ _ z h.n1 h'.n1 (by have := j1.1;omega) (fun x hx => by have := j1.2 x hx;omega)
 refine eP k27 ?_
 refine gO ?_
 (try with_reducible refine othM.toT ?_);refine oth_neqS rfl rfl rfl (by kernel_rfl) (eq_cfg _ _ _ _ _) ?_;refine gO ?_
 repeat (simp only [seval,go_sem,b1];refine gO ?_)
 refine loop_upd (ι := Nat) (n := 2) (fun k => k ≤ 2) (fun k => [(5,.c (.v (.int .i64 k)))]) (fun _ => [(0,.cells tyWw (wldEw c link m)),(1,.cells tyWw (wldEw c link m'))]) (fun _ => z) (fun k => 2 - k) 0 (by omega) (by (simp only [wrI,wrR,anyL,st,List.append_nil,List.nil_append,List.cons_append]);exact rfl) ?_ ?_
 ·simp only [wldEw]
  exact lX
 ·intro k hk
  simp only [wldEw]
  have hk3 : k = 0 ∨ k = 1 ∨ k = 2 := by omega
  rcases hk3 with rfl | rfl | rfl
  ·refine gO ?_
   ((first | refine ⟨⟨by omega,h.atE⟩,?_⟩ | refine ⟨h.atE,?_⟩);(try simp only [seval,go_sem]))
   (refine ldF.agg _ rfl (by first | exact .inl h.all0 | exact h.all0) ?_;(try simp only [seval,go_sem]))
   ((first | refine ⟨⟨by omega,h'.atE⟩,?_⟩ | refine ⟨h'.atE,?_⟩);(try simp only [seval,go_sem]))
   (refine ldF.agg _ rfl (by first | exact .inl h'.all0 | exact h'.all0) ?_;(try simp only [seval,go_sem]))
   refine tT ?_;refine callP (c0) rfl rfl ?_;rintro _ _ - ⟨rfl,rfl⟩;refine gO ?_
   refine gO ?_
   refine ⟨1,by omega,by omega,?_⟩
   exact lX
  ·refine gO ?_
   ((first | refine ⟨⟨by omega,h.atE⟩,?_⟩ | refine ⟨h.atE,?_⟩);(try simp only [seval,go_sem]))
   (refine ldF.agg _ rfl (by first | exact .inl h.all1 | exact h.all1) ?_;(try simp only [seval,go_sem]))
   ((first | refine ⟨⟨by omega,h'.atE⟩,?_⟩ | refine ⟨h'.atE,?_⟩);(try simp only [seval,go_sem]))
   (refine ldF.agg _ rfl (by first | exact .inl h'.all1 | exact h'.all1) ?_;(try simp only [seval,go_sem]))
   refine tT ?_;refine callP (c1) rfl rfl ?_;rintro _ _ - ⟨rfl,rfl⟩;refine gO ?_
   refine gO ?_
   refine ⟨2,by omega,by omega,?_⟩
   exact lX
  ·refine gO ?_
   refine loop_upd (ι := Nat) (n := 2) (fun k => k ≤ 2) (fun k => [(6,.c (.v (.int .i64 k)))]) (fun _ => [(0,.cells tyWw (wldEw c link m)),(1,.cells tyWw (wldEw c link m'))]) (fun _ => z) (fun k => 2 - k) 0 (by omega) (by (simp only [wrI,wrR,anyL,st,List.append_nil,List.nil_append,List.cons_append]);exact rfl) ?_ ?_
   ·simp only [wldEw]
    exact lX
   ·intro k hk
    simp only [wldEw]
    have hk3 : k = 0 ∨ k = 1 ∨ k = 2 := by omega
    rcases hk3 with rfl | rfl | rfl
    ·refine gO ?_
     ((first | refine ⟨⟨by omega,h.atN⟩,?_⟩ | refine ⟨h.atN,?_⟩);(try simp only [seval,go_sem]))
     (refine ldF.one _ (by first | exact .inl (h.N.cell 0 rfl) | exact (h.N.cell 0 rfl)) ?_;(try simp only [seval,go_sem]))
     ((first | refine ⟨⟨by omega,h'.atN⟩,?_⟩ | refine ⟨h'.atN,?_⟩);(try simp only [seval,go_sem]))
     (refine ldF.one _ (by first | exact .inl (h'.N.cell 0 rfl) | exact (h'.N.cell 0 rfl)) ?_;(try simp only [seval,go_sem]))
     refine tT ?_;refine callP (c2) rfl rfl ?_;rintro _ _ - ⟨rfl,rfl⟩;refine gO ?_
     refine gO ?_
     refine ⟨1,by omega,by omega,?_⟩
     exact lX
    ·refine gO ?_
     ((first | refine ⟨⟨by omega,h.atN⟩,?_⟩ | refine ⟨h.atN,?_⟩);(try simp only [seval,go_sem]))
     (refine ldF.one _ (by first | exact .inl (h.N.cell 1 rfl) | exact (h.N.cell 1 rfl)) ?_;(try simp only [seval,go_sem]))
     ((first | refine ⟨⟨by omega,h'.atN⟩,?_⟩ | refine ⟨h'.atN,?_⟩);(try simp only [seval,go_sem]))
     (refine ldF.one _ (by first | exact .inl (h'.N.cell 1 rfl) | exact (h'.N.cell 1 rfl)) ?_;(try simp only [seval,go_sem]))
     refine tT ?_;refine callP (c3) rfl rfl ?_;rintro _ _ - ⟨rfl,rfl⟩;refine gO ?_
     refine gO ?_
     refine ⟨2,by omega,by omega,?_⟩
     exact lX
    ·refine gO ?_
     (first|refine fN ?_|exact fZ)
theorem liplay_i (Q : Wld → Evt → Prop) (hQ : StepP Q) (c : Cfg) (evs : List Evt) (A : Option Addr) (k : Nat) (z : Zc) (hc : CfgI c) (hE : Sl eRep z evs (.slice A evs.length k)) (hl : evs.length ≤ 400) (hS : ∀ i ev,evs[i]? = some ev → Q (run false (wldNew c) (evs.take i)) ev) : PSpec Tryz.prog 20 [vCfg c,.slice A evs.length k] z (WldF c (run false (wldNew c) evs)) := by
 have hI := wldNew_I hc
 refine eP k20 ?_
 refine gO ?_
 refine tT ?_;refine callP (wldnew_i c z hc) rfl rfl ?_;rintro u z2 hz2 ⟨e0,e1,n0,n1,m,link,hw0,rfl,hP⟩;refine gO ?_
 rw [hw0] at hI hS ⊢
 refine tT ?_;refine callP (wldrun_i Q hQ c link e0 e1 n0 n1 m evs A k z2 hP hI (hE.mono hz2) hl hS) rfl rfl ?_;rintro u z3 hz3 ⟨f0,f1,g0,g1,m3,lk,hw,rfl,hP3⟩;refine gO ?_
 (first|refine fN ?_|exact fZ)
 exact ⟨f0,f1,g0,g1,m3,lk,hw,rfl,hP3⟩
theorem wld_inj {c d : Cfg} {e0 e1 f0 f1 : End} {n0 n1 g0 g1 : List Msg} {k l : Int} (h : (⟨c,[e0,e1],[n0,n1],k⟩ : Wld) = ⟨d,[f0,f1],[g0,g1],l⟩) : e0 = f0 ∧ e1 = f1 ∧ n0 = g0 ∧ n1 = g1 ∧ k = l := by
 injection h with _ h1 h2 h3
 injection h1 with h1 h4
 injection h4 with h4 _
 injection h2 with h2 h5
 injection h5 with h5 _
 exact ⟨h1,h4,h2,h5,h3⟩
def k52 := mkK [(.t 4)] [1000055] [(6,[],.l [4,8,12,20,24,28,32,2,18,38,40]),(8,[],.l [4,8,12,20,40,44,48,2,18,26,28,34,38,54,56]),(10,[],.f [0,4,8,12,16,24] (.l [22,30,32,36,40,44,51]) (.l [30,32,36,22,40,44,51]))] Tryz.func52 Tryz.ntmps52 rfl
def k29 := mkK [(.t 2)] [] [] Tryz.func29 Tryz.ntmps29 rfl
theorem appM.frzT {P : Program} {s : St} {K : St → Prop} {d : Option Nat} {ty : TypeId} {x y : Operand} (k : Nat) {e : TypeId} {cs : List SC} {vs : List Value} (hk : look k s.L = some (.cells e cs)) (hv : allV cs = some vs) (h : ∀ b z',s.z ≤ z' → RdAt z' (some ⟨b,0,none⟩) 0 vs → appM P ty x y d (Go.Proofs.YtllafcmkppmdgaaGreat.frz s k b z') K) : appM P ty x y d s K := fun o h1 h2 => opM.frz hk hv fun b z' g1 g2 => h b z' g1 g2 o h1 h2
theorem By.mkN {z : Zc} {l : List Int} {A : Option Addr} {n c : Nat} (hn : l.length = n) (hc : n ≤ c) (hB : Bys l) (hr : RdAt z A 0 (bc l)) : By z l (.slice A n c) := by subst hn;exact By.mk hc hB hr
theorem turn_s (b : Nat) (A : Option Addr) (cc : Nat) (code : List Int) (p : Int) (z : Zc) (hb : By z code (.slice A code.length cc)) (hp : 0 ≤ p ∧ p ≤ 810000) (hl : code.length ≤ 2000) (l : List Int) (v : Value) (hv : By z l v) (hl2 : l.length ≤ 100) :
  Spec Tryz.prog 52 [.pointer (some ⟨b,0,none⟩),v] z (starL [rdA b A code.length cc p]) fun v z' A' => ∃ (out : List Int) (p' : Int),A' = starL [rdA b A code.length cc p'] ∧ By z' out v ∧ out.length ≤ l.length + 1 ∧ p ≤ p' ∧ p' ≤ p + 10 := by
 obtain ⟨A0,c0,rfl,hc0,hB0,hr0⟩ := hv.form
 have hu8 : ∀ y : Int,0 ≤ IntKind.u8.wrap y ∧ IntKind.u8.wrap y ≤ 255 := fun y => by rw [IntKind.wrap_u8];omega
 refine eB k52 ?_
 refine gO ?_
 (with_reducible refine condI.split (fun hg => ?_) (fun hg => ?_) <;> (try simp only [hg]) <;> (try simp only [seval,go_sem]))
 ·refine gO ?_
  refine tT ?_;refine callW 1000 (pick_s b A cc code p 256 z hb (by omega) hl (by omega)) rfl rfl rfl rfl ?_;rintro v1 z1 A1 hz1 ⟨x,rfl,rfl,rfl,_,_,_⟩;refine gO ?_
  (refine FinV.frz 0 rfl rfl (fun b5 z5 hz5 hr5 => ?_));dsimp only at hz5;simp only [seval,go_sem,Go.Proofs.YtllafcmkppmdgaaGreat.frz,subV,subC,subE,subL]
  refine fQ ?_
  exact ⟨[IntKind.u8.wrap x],p + 1,rfl,By.mk (l := [IntKind.u8.wrap x]) (Nat.le_refl _) (fun y hy => by rw [List.mem_singleton.1 hy];exact hu8 _) hr5,by simp,by omega,by omega⟩
 ·have h0 : 1 ≤ l.length := by simp at hg;cases l with | nil => simp at hg | cons _ _ => simp
  refine gO ?_
  refine tT ?_;refine callW 1000 (pick_s b A cc code p l.length z hb (by omega) hl (by omega)) rfl rfl rfl rfl ?_;rintro v1 z1 A1 hz1 ⟨x,rfl,rfl,rfl,hx,hx2,_⟩;refine gO ?_
  have hx3 := hx2 (by omega)
  obtain ⟨k,rfl⟩ := Int.eq_ofNat_of_zero_le hx
  refine tT ?_;refine callW 1000 (pick_s b A cc code (p + 1) 3 z hb (by omega) hl (by omega)) rfl rfl rfl rfl ?_;rintro v2 z2 A2 hz2 ⟨y,rfl,rfl,rfl,hy,hy2,_⟩;refine gO ?_
  have hy3 : y = 0 ∨ y = 1 ∨ y = 2 := by have := hy2 (by omega);omega
  have hk : k < l.length := by omega
  have w1 : IntKind.i64.wrap ((k : Int) + 1) = ((k + 1 : Nat) : Int) := by rw [wrap_in (by omega) (by omega)];omega
  have ht1 : RdAt z A0 0 (bc (l.take k)) := by have := hr0.take k;rw [← List.map_take] at this;exact this
  have hl1 : (l.take k).length = k := by rw [List.length_take];omega
  have hl3 : (l.drop (k + 1)).length = l.length - (k + 1) := by rw [List.length_drop]
  have ht2 : RdAt z (cutA A0 c0 (k + 1) 1) 0 (bc (l.drop (k + 1))) := by have := hr0.cut (c := c0) (l := k + 1) (sz := 1) (by simp [bc];omega);simpa [bc,List.map_drop] using this
  have ht3 : RdAt z (cutA A0 c0 k 1) 0 (bc (l.drop k)) := by have := hr0.cut (c := c0) (l := k) (sz := 1) (by simp [bc];omega);simpa [bc,List.map_drop] using this
  have hk9 : k = 0 ∨ 0 < k := by omega
  rcases hy3 with rfl | rfl | rfl
  ·refine gO ?_
   try simp only [w1,Int.toNat_natCast]
   refine ⟨⟨by omega,by omega⟩,⟨by omega,by omega⟩,?_⟩
   rcases hk9 with rfl | hk9
   ·refine aT ?_;(refine appM_zero atyB (by first | exact .inl ⟨_,_,_,Nat.le_refl _,rfl⟩ | exact .inr ⟨_,_,rfl⟩) rfl ?_);refine gO ?_
    refine aT ?_;(refine appM_empty 99 atyB rfl (by first | exact .inl ⟨_,rfl⟩ | exact .inr ⟨_,_,rfl⟩) rfl ht2 (by simp only [bc,List.length_map];omega) (bc_one _) (by omega) (fun A4 c4 z4 hz4 hc4 hr4 => ?_));refine gO ?_
    refine fQ ?_
    exact ⟨l.drop (0 + 1),_,rfl,By.mkN hl3 hc4 (fun y hy => hB0 y (List.mem_of_mem_drop hy)) hr4,by omega,by omega,by omega⟩
   ·refine aT ?_;(refine appM_emptyO 90 atyB rfl (by first | exact .inl ⟨_,rfl⟩ | exact .inr ⟨_,_,rfl⟩) rfl ht1 (by simp only [bc,List.length_map];omega) (bc_one _) (by omega) (by omega) (fun A6 cA6 hA6 => ?_));refine gO ?_
    refine aT ?_;(refine appM_row 90 atyB rfl rfl rfl rfl ht2 (by simp only [bc,List.length_map];omega) (bc_one _) (by omega) (fun v5 => ?_));refine gO ?_
    (refine FinV.frzR 90 rfl (fun A4 c4 z4 hv4 hc4 hz4 hr4 => ?_));dsimp only at hz4;(try subst hv4);simp only [seval,go_sem]
    refine fQ ?_
    have e : (l.take k ++ l.drop (k + 1)).length = k + (l.length - (k + 1)) := by rw [List.length_append,hl1,hl3]
    exact ⟨_,_,rfl,By.mkN e hc4 (fun y hy => (List.mem_append.1 hy).elim (fun hy => hB0 y (List.mem_of_mem_take hy)) fun hy => hB0 y (List.mem_of_mem_drop hy)) (by simpa [bc] using hr4),by omega,by omega,by omega⟩
  ·refine gO ?_
   refine ⟨⟨by omega,by omega⟩,⟨by omega,by omega⟩,?_⟩
   try simp only [Int.toNat_natCast]
   have hl4 : (l.drop k).length = l.length - k := by rw [List.length_drop]
   have hb9 : ∀ x2 : Int,Bys (l.take k ++ [IntKind.u8.wrap x2] ++ l.drop k) := fun x2 y hy => by
    rcases List.mem_append.1 hy with hy | hy
    ·rcases List.mem_append.1 hy with hy | hy
     ·exact hB0 y (List.mem_of_mem_take hy)
     ·rw [List.mem_singleton.1 hy];exact hu8 _
    ·exact hB0 y (List.mem_of_mem_drop hy)
   rcases hk9 with rfl | hk9
   ·refine aT ?_;(refine appM_zero atyB (by first | exact .inl ⟨_,_,_,Nat.le_refl _,rfl⟩ | exact .inr ⟨_,_,rfl⟩) rfl ?_);refine gO ?_
    refine tT ?_;refine callW 1000 (pick_s b A cc code (p + 1 + 1) 9 z hb (by omega) hl (by omega)) rfl rfl rfl rfl ?_;rintro v3 z3 A3 hz3 ⟨x2,rfl,rfl,rfl,_,_,_⟩;refine gO ?_
    refine aT ?_
    refine appM.frzT 1 rfl rfl (fun b1 z5 hz5 hr5 => ?_)
    simp only [seval,go_sem,Go.Proofs.YtllafcmkppmdgaaGreat.frz,subV,subC,subE,subL]
    have ht4 := hr0.mono hz5
    refine aT ?_;(refine appM_emptyO 90 atyB rfl (by first | exact .inl ⟨_,rfl⟩ | exact .inr ⟨_,_,rfl⟩) rfl hr5 rfl (by simp [Value.oneCell']) (by omega) (by omega) (fun A6 cA6 hA6 => ?_));refine gO ?_
    refine aT ?_;(refine appM_row 90 atyB rfl rfl rfl rfl ht4 (by simp only [bc,List.length_map];omega) (bc_one _) (by omega) (fun v5 => ?_));refine gO ?_
    (refine FinV.frzR 90 rfl (fun A4 c4 z4 hv4 hc4 hz4 hr4 => ?_));dsimp only at hz4;(try subst hv4);simp only [seval,go_sem]
    refine fQ ?_
    exact ⟨[IntKind.u8.wrap x2] ++ l,_,rfl,By.mkN List.length_append hc4 (by simpa using hb9 x2) (by simpa [bc] using hr4),by simp,by omega,by omega⟩
   ·refine aT ?_;(refine appM_emptyO 90 atyB rfl (by first | exact .inl ⟨_,rfl⟩ | exact .inr ⟨_,_,rfl⟩) rfl ht1 (by simp only [bc,List.length_map];omega) (bc_one _) (by omega) (by omega) (fun A6 cA6 hA6 => ?_));refine gO ?_
    refine tT ?_;refine callW 1000 (pick_s b A cc code (p + 1 + 1) 9 z hb (by omega) hl (by omega)) rfl rfl rfl rfl ?_;rintro v3 z3 A3 hz3 ⟨x2,rfl,rfl,rfl,_,_,_⟩;refine gO ?_
    refine aT ?_;(refine appM_new 90 atyB rfl rfl rfl rfl rfl rfl rfl (by simp [Value.oneCell']) (by omega) (fun v5 => ?_));refine gO ?_
    refine aT ?_;(refine appM_row 90 atyB rfl rfl rfl rfl ht3 (by simp only [bc,List.length_map];omega) (bc_one _) (by omega) (fun v6 => ?_));refine gO ?_
    (refine FinV.frzR 90 rfl (fun A4 c4 z4 hv4 hc4 hz4 hr4 => ?_));dsimp only at hz4;(try subst hv4);simp only [seval,go_sem]
    refine fQ ?_
    exact ⟨_,_,rfl,By.mkN (by rw [List.length_append,List.length_append,hl1,hl4];rfl) hc4 (hb9 x2) (by simpa [bc] using hr4),by simp;omega,by omega,by omega⟩
  ·refine gO ?_
   have hpk := pick_s b A cc code (p + 1 + 1) 255 z hb (by omega) hl (by omega)
   (refine appT.toRow 90 0 (m := 0) (sz := 1) rfl rfl rfl (by omega) (fun b => ?_));simp only [seval,go_sem,rowSt,subV,subC,subE,subL]
   refine aT ?_;(refine appM_rowF 90 atyB rfl rfl rfl rfl hr0 (by simp only [bc,List.length_map];omega) (bc_one _) (by omega) (fun A6 c6 hc6 => ?_));simp only [seval,go_sem]
   refine vsI.atR 90 rfl fun hat => ?_
   have hat := hat (by omega)
   simp only [Nat.zero_add,List.nil_append] at *
   refine gO ?_
   (with_reducible refine joinV.id ?_;simp only [seval,go_sem])
   (refine ⟨⟨by omega,by omega,hat⟩,?_⟩;(try simp only [seval,go_sem]))
   simp only [Nat.mul_one]
   refine ⟨?_,?_⟩
   refine ldF.one _ (RdS.cell 90 rfl (bc_get hk)) ?_
   refine gO ?_
   rotate_left
   all_goals refine tT ?_;refine callW 1000 (hpk) rfl rfl rfl rfl ?_;rintro v3 z3 A3 hz3 ⟨x2,rfl,rfl,rfl,hx9,hx8,_⟩;refine gO ?_
   refine ldF.one _ (RdS.cell 90 rfl (bc_get hk)) ?_
   refine gO ?_
   all_goals
    have hx7 := hx8 (by omega)
    have w3 : IntKind.i64.wrap (1 + x2) = 1 + x2 := wrap_in (by omega) (by omega)
    simp only [w3]
    rw [bend_bits hB0 hk (v := 1 + x2) (by omega)]
    (refine ⟨⟨by omega,by omega,hat⟩,?_⟩;(try simp only [seval,go_sem]))
    simp only [Nat.mul_one]
    refine stoV_row 90 rfl rfl rfl rfl rfl rfl rfl (by simp only [bc,List.length_map,List.length_singleton];omega) ?_
    rw [bc_set hk]
    simp only [seval,go_sem]
    refine gO ?_
    (refine FinV.frzR 90 rfl (fun A4 c4 z4 hv4 hc4 hz4 hr4 => ?_));dsimp only at hz4;(try subst hv4);simp only [seval,go_sem]
    refine fQ ?_
    injection hv4 with q1 _ q3
    rw [q1,q3]
    exact ⟨_,_,rfl,By.mkN List.length_set hc4 (bend_bys hB0 hk (v := 1 + x2) (by omega)) hr4,by rw [List.length_set];omega,by omega,by omega⟩
theorem drawFrm_s (code : List Int) (v : Value) (z : Zc) (h : By z code v) (hl : code.length ≤ 1000000000) : PSpec Tryz.prog 29 [v] z fun u z' => ∃ out : List Int,By z' out u ∧ out.length ≤ 100 := by
 obtain ⟨A0,c0,rfl,hc0,hB0,hr0⟩ := h.form
 refine eP k29 ?_
 refine gO ?_
 refine tT ?_;refine callO 1000 (open_s code _ z h hl) rfl rfl rfl ?_;rintro u z1 A1 hz1 ⟨b,A,c,cd,rfl,rfl,hcd,hby⟩;refine gO ?_
 refine tT ?_;refine callW 1000 (frame_s b A c cd 0 z1 hby (by omega) hcd) rfl rfl rfl rfl ?_;rintro v4 z4 A4 hz4 ⟨f,B,n,k,p',rfl,rfl,hbf,hlen,hp1,hp2⟩;refine gO ?_
 have hb4 := hby.mono hz4
 refine tT ?_;refine callP (frmBytes_s f _ z4 hbf (by omega)) rfl rfl ?_;rintro v5 z5 hz5 hbb;(try simp only [seval,go_sem])
 have hle := frmBytes_le f
 obtain ⟨A5,k5,rfl,hk5,hB5,hr5⟩ := hbb.form
 refine gO ?_
 refine tT ?_;refine callW 1000 (pick_s b A c cd p' 4 z5 (hb4.mono hz5) (by omega) hcd (by omega)) rfl rfl rfl rfl ?_;rintro v6 z6 A6 hz6 ⟨y,rfl,rfl,rfl,_,_,_⟩;refine gO ?_
 (with_reducible refine condI.split (fun hg => ?_) (fun hg => ?_) <;> (try simp only [hg]) <;> (try simp only [seval,go_sem]))
 ·refine gO ?_
  refine tT ?_;refine callW 1000 (turn_s b A c cd (p' + 1) z5 (hb4.mono hz5) (by omega) hcd _ _ hbb (by omega)) rfl rfl rfl rfl ?_;rintro v7 z7 A7 hz7 ⟨out,p7,rfl,ho,hol,_,_⟩;(try simp only [seval,go_sem])
  obtain ⟨A8,k8,rfl,hk8,hB8,hr8⟩ := ho.form
  refine gO ?_
  (first|refine fN ?_|exact fZ)
  exact ⟨out,ho,by omega⟩
 ·refine gO ?_
  (with_reducible refine condI.split (fun hg => ?_) (fun hg => ?_) <;> (try simp only [hg]) <;> (try simp only [seval,go_sem]))
  ·refine gO ?_
   have hcc : PSpec Tryz.prog 53 [.slice A5 (frmBytes f).length k5] z5 fun v z' => ∃ u b l,l.length ≤ 20 ∧ v = .tuple #[u,.bool b] ∧ By z' l u := (crcCut_s (frmBytes f) _ z5 hbb (by omega)).mono fun v z' _ ⟨u,hu⟩ => by
    cases hq : crcCut (frmBytes f) with
    | none => rw [hq] at hu;exact ⟨u,false,[],by simp,hu⟩
    | some l =>
     have := congrArg List.length (crcCut_some hq)
     rw [crcPut_length] at this
     rw [hq] at hu
     exact ⟨u,true,l,by omega,hu⟩
   refine tT ?_;refine callP (hcc) rfl rfl ?_;rintro v7 z7 hz7 ⟨u7,bb,l,hll,rfl,hb7⟩;(try simp only [seval,go_sem])
   obtain ⟨A7,k7,rfl,hk7,hB7,hr7⟩ := hb7.form
   refine gO ?_
   refine tT ?_;refine callW 1000 (turn_s b A c cd (p' + 1) z7 ((hb4.mono hz5).mono hz7) (by omega) hcd l _ hb7 (by omega)) rfl rfl rfl rfl ?_;rintro v8 z8 A8 hz8 ⟨out,p8,rfl,ho,hol,_,_⟩;(try simp only [seval,go_sem])
   obtain ⟨A8,k8,rfl,hk8,hB8,hr8⟩ := ho.form
   refine gO ?_
   refine tT ?_;refine callP (crcPut_s out _ z8 ho (by omega)) rfl rfl ?_;rintro v9 z9 hz9 h9;(try simp only [seval,go_sem])
   obtain ⟨A9,k9,rfl,hk9,hB9,hr9⟩ := h9.form
   refine gO ?_
   (first|refine fN ?_|exact fZ)
   exact ⟨crcPut out,h9,by rw [crcPut_length];omega⟩
  ·refine gO ?_
   (first|refine fN ?_|exact fZ)
   exact ⟨frmBytes f,hbb,by omega⟩
def k12 := mkK [(.t 4)] [] [] Tryz.func12 Tryz.ntmps12 rfl
set_option maxHeartbeats 8000000
theorem frmB {f : FuncId} {v : Value} {z : Zc} {l : List Int} (h : PSpec Tryz.prog f [v] z fun v z' => match frmRead l with
  | some f => ∃ u,v = .tuple #[vFrm f u,.bool true] ∧ By z' f.data u
  | none => v = .tuple #[vFrm frm0 (.slice none 0 0),.bool false]) : PSpec Tryz.prog f [v] z fun v z' => ∃ g A n k,v = .tuple #[vFrm g (.slice A n k),.bool (frmRead l).isSome] :=
 h.mono fun w z' _ hw => by
  cases hq : frmRead l with
  | none => rw [hq] at hw;exact ⟨_,_,_,_,hw⟩
  | some f => rw [hq] at hw;obtain ⟨u,hu,hb⟩ := hw;obtain ⟨A,k,rfl,_⟩ := hb.form;exact ⟨_,_,_,_,hu⟩
theorem step_mv (c : Cfg) (e0 e1 : End) (n0 n1 : List Msg) (link : Int) : step false ⟨c,[e0,e1],[n0,n1],link⟩ ⟨10,0,0,0,[]⟩ = ⟨c,[e0,e1],[[],[]],1 - link⟩ := by simp [step]
theorem step_in (c : Cfg) (e0 e1 : End) (link : Int) (f : List Int) (h : f.length ≤ 15) : step false ⟨c,[e0,e1],[[],[]],link⟩ ⟨11,1,0,0,f⟩ = ⟨c,[e0,e1],[[],[⟨false,f⟩]],link⟩ := by simp [step,netAt,setNet,h]
theorem step_no (c : Cfg) (e0 e1 : End) (link : Int) (f : List Int) (h : frmRead f = none) : step false ⟨c,[e0,e1],[[],[⟨false,f⟩]],link⟩ ⟨7,1,0,0,[]⟩ = ⟨c,[e0,e1],[[],[]],link⟩ := by simp [step,hear1,netAt,setNet,h]
theorem wldNoise_law (code more : List Int) (v v' : Value) (z : Zc) (h : By z code v) (h' : By z more v') : PSpec Tryz.prog 12 [v,v'] z fun u z' => u = .bool true := by
 obtain ⟨A0,c0,rfl,hc0,hB0,hr0⟩ := h.form
 obtain ⟨A9,c9,rfl,hc9,hB9,hr9⟩ := h'.form
 refine eP k12 ?_
 refine gO ?_
 (with_reducible refine guardR.split (fun hg => ?_) (fun hg => ?_) <;> (try simp only [hg]) <;> simp only [seval,go_sem])
 ·(first|refine fN ?_|exact fZ)
 have hlen : code.length ≤ 1048576 := by have := of_decide_eq_false hg;omega
 refine gO ?_
 (with_reducible refine condI.split (fun hg => ?_) (fun hg => ?_) <;> (try simp only [hg]) <;> (try simp only [seval,go_sem]))
 ·(first|refine fN ?_|exact fZ)
 have hlen9 : more.length ≤ 1048576 := by have := of_decide_eq_false hg;omega
 refine gO ?_
 refine tT ?_;refine callP (drawWild_s code _ z h (by omega)) rfl rfl ?_;rintro u z1 hz1 ⟨c,evs,B,kB,rfl,hE,hc,hev,hel⟩;refine gO ?_
 refine tT ?_;refine callP (drawFrm_s more _ z1 (h'.mono hz1) (by omega)) rfl rfl ?_;rintro u z2 hz2 ⟨f,hf,hfl⟩;(try simp only [seval,go_sem])
 obtain ⟨A2,c2,rfl,hc2,hB2,hr2⟩ := hf.form
 refine gO ?_
 refine tT ?_;refine callP (frmB (frmRead_i f _ z2 hf (by omega))) rfl rfl ?_;rintro u z3 hz3 ⟨f1,A6,n6,k6,rfl⟩;refine gO ?_
 have hf3 := hf.mono hz3
 refine tT ?_;refine callP (frmB (frmRead_s f _ z3 hf3 (by omega))) rfl rfl ?_;rintro u z4 hz4 ⟨f2,A7,n7,k7,rfl⟩;refine gO ?_
 have b1 : ((frmRead f).isSome != (frmRead f).isSome) = false := bne_self_eq_false _
 repeat (simp only [seval,go_sem,b1];refine gO ?_)
 have hz14 := Zc.trans' hz2 (Zc.trans' hz3 hz4)
 have hf4 := hf3.mono hz4
 refine tT ?_;refine callP (liplay_i QW stepP_W c evs B kB z4 hc (Sl.mono hz14 hE) (by omega) (fun i ev hx => hev ev (List.mem_of_getElem? hx))) rfl rfl ?_;rintro u z5 hz5 ⟨e0,e1,n0,n1,m,link,hw,rfl,hP⟩;refine gO ?_
 have hI := run_W (g := false) (wldNew_W hc) evs
 rw [hw] at hI
 refine tT ?_;refine callP (wldstep_i QW stepP_W c link e0 e1 n0 n1 m ⟨10,0,0,0,[]⟩ (.slice none 0 0) z5 hP hI.ok (Sl.nil _ _ _) ⟨⟨by simp,by simp⟩,.inl rfl,by simp⟩) rfl rfl ?_;rintro u z6 hz6 ⟨f0,f1,g0,g1,m5,lk,hw5,rfl,hP5⟩;refine gO ?_
 have hI5 := step_W (g := false) hI ⟨10,0,0,0,[]⟩
 rw [hw5] at hI5
 rw [step_mv] at hw5
 obtain ⟨rfl,rfl,rfl,rfl,rfl⟩ := wld_inj hw5
 refine tT ?_;refine callP (wldok_i c _ e0 e1 [] [] m5 z6 hP5 hI5.ok) rfl rfl ?_;rintro u z7 hz7 rfl;refine gO ?_
 (with_reducible refine guardR.split (fun hg => ?_) (fun hg => ?_) <;> (try simp only [hg]) <;> simp only [seval,go_sem])
 ·refine gO ?_
  refine tT ?_;refine callP (liok z7) rfl rfl ?_;rintro _ _ - ⟨rfl,rfl⟩;refine gO ?_
  (first|refine fN ?_|exact fZ)
 have hno : frmRead f = none := by cases hq : frmRead f with | none => rfl | some _ => rw [hq] at hg;simp at hg
 refine gO ?_
 (with_reducible refine condI.split (fun hg => ?_) (fun hg => ?_) <;> (try simp only [hg]) <;> (try simp only [seval,go_sem]))
 ·refine gO ?_
  refine tT ?_;refine callP (liok z7) rfl rfl ?_;rintro _ _ - ⟨rfl,rfl⟩;refine gO ?_
  (first|refine fN ?_|exact fZ)
 have h15 : f.length ≤ 15 := by have := of_decide_eq_false hg;omega
 refine gO ?_
 have hf7 := ((hf4.mono hz5).mono hz6).mono hz7
 refine tT ?_;refine callP (wldstep_i QW stepP_W c _ e0 e1 [] [] m5 ⟨11,1,0,0,f⟩ _ z7 (hP5.mono hz7) hI5.ok hf7 ⟨⟨by simp,by simp⟩,.inr rfl,by dsimp only;omega⟩) rfl rfl ?_;rintro u z8 hz8 ⟨p0,p1,q0,q1,m8,lk8,hw8,rfl,hP8⟩;refine gO ?_
 have hI8 := step_W (g := false) hI5 ⟨11,1,0,0,f⟩
 rw [hw8] at hI8
 rw [step_in _ _ _ _ _ h15] at hw8
 obtain ⟨rfl,rfl,rfl,rfl,rfl⟩ := wld_inj hw8
 refine tT ?_;refine callP (wldstep_i QW stepP_W c _ e0 e1 [] [⟨false,f⟩] m8 ⟨7,1,0,0,[]⟩ (.slice none 0 0) z8 hP8 hI8.ok (Sl.nil _ _ _) ⟨⟨by simp,by simp⟩,.inr rfl,by simp⟩) rfl rfl ?_;rintro u z9 hz9 ⟨p0,p1,q0,q1,m9,lk9,hw9,rfl,hP9⟩;refine gO ?_
 rw [step_no _ _ _ _ _ hno] at hw9
 obtain ⟨rfl,rfl,rfl,rfl,rfl⟩ := wld_inj hw9
 have hP8' := hP8.mono hz9
 ((first | refine ⟨⟨by omega,hP8'.atN⟩,?_⟩ | refine ⟨hP8'.atN,?_⟩);(try simp only [seval,go_sem]))
 (refine ldF.one _ (by first | exact .inl (hP8'.N.cell 1 rfl) | exact (hP8'.N.cell 1 rfl)) ?_;(try simp only [seval,go_sem]))
 refine gO ?_
 have hP5' := hP5.mono (Zc.trans' hz7 (Zc.trans' hz8 hz9))
 refine tT ?_;refine callP (liworld c _ e0 e1 [] [] m9 m5 z9 hP9 hP5' hI5.ok) rfl rfl ?_;rintro _ _ - ⟨rfl,rfl⟩;refine gO ?_
 (first|refine fN ?_|exact fZ)
end Go.Proofs.YtllafcmkppmdgaaGreat
namespace Go.Proofs.YtllafcmkppmdgaaGreat.fnWldNoise
open Go.ChangeShapes Go.WideShapes Go.ChangeAt Go.RowKit
open Go.ChangeMaps (open_string shut_string)
set_option linter.unusedVariables false
set_option linter.unusedSimpArgs false
theorem own : ownKnob Tryz.prog.godebug = none := by kernel_rfl
theorem laidOut : laidOutB Tryz.prog = true := by kernel_rfl
def IsRow (k : IntKind) (w : World) (a : Option Addr) (len cap : Nat) (zs : List Int) : Prop :=
 (a = none ∧ len = 0 ∧ cap = 0 ∧ zs = []) ∨
 ∃ x,a = some x ∧ len ≤ cap ∧ cap ≤ maxLen ∧ zs.length = cap ∧ (∀ i,i < zs.length → w.cell? (x.add i) = some (.int k (zs.getD i 0))) ∧ ∀ n ∈ zs,(Lit.int k n).wf = true
def all (W : World) : Zc := ⟨fun _ => True,W⟩
theorem all_wok (W : World) : WOk ⟨W,fun _ => False,all W⟩ (all W) (fun _ => False) W :=
 ⟨rfl,rfl,rfl,Nat.le_refl _,Nat.le_refl _,fun _ _ => rfl,fun _ h => h.elim,fun _ _ _ => rfl,fun _ h => h.elim,fun _ h => .inl h,Zc.rfl' _⟩
theorem IsRow.by {W : World} {a : Option Addr} {len cap : Nat} {zs : List Int} (h : IsRow .u8 W a len cap zs) : ∃ l,By (all W) l (.slice a len cap) := by
 rcases h with ⟨rfl,rfl,rfl,rfl⟩ | ⟨x,rfl,hlc,hcm,hl,hc,hw⟩
 ·exact ⟨[],By.mk (Nat.le_refl _) (fun x hx => by cases hx) (RdAt.nil _ _ _)⟩
 ·have hlen : (zs.take len).length = len := by rw [List.length_take];omega
  refine ⟨zs.take len,?_⟩
  have key := By.mk (z := all W) (l := zs.take len) (A := some x) (c := cap) (by omega) (fun y hy => ?_) (fun hn => ?_)
  ·rw [hlen] at key;exact key
  ·have := hw y (List.mem_of_mem_take hy)
   have h : IntKind.u8.min ≤ y ∧ y ≤ IntKind.u8.max := by simpa [Lit.wf] using this
   exact h
  ·have h0 : 0 < zs.length := by
    cases zs with
    | nil => exact absurd (by simp [bc]) hn
    | cons _ _ => simp
   obtain ⟨b,o,rfl,hcell⟩ := ints_at hc h0
   refine ⟨b,o,rfl,⟨trivial,World.block_lt_of_cell? _ ⟨b,o,none⟩ (hcell 0 h0)⟩,fun i u hu => ?_⟩
   simp only [bc,List.getElem?_map,Option.map_eq_some_iff] at hu
   obtain ⟨y,hy,rfl⟩ := hu
   rw [List.getElem?_take] at hy
   split at hy
   ·obtain ⟨hi,rfl⟩ := List.getElem?_eq_some_iff.1 hy
    have := hcell i hi
    show W.cell? _ = _
    simpa [List.getD,hi] using this
   ·cases hy
set_option maxRecDepth 100000 in
theorem lifted (os : Os) (started : os.Started) (H : Type) (enc : TypeId × Value → H) :
  ReturnsInHanded {} Tryz.checked os 12 .any (Rows.fnWldNoiseSpec.pre6 enc Tryz.prog Tryz.f12 Rows.fnWldNoiseRow.domain false) (Rows.fnWldNoiseSpec.post enc Tryz.prog Tryz.f12 false true false false) := by
 refine returnsInHanded_of_change_sized (C := Tryz.checked) own started (by kernel_rfl) Tryz.func12
  (ChangeSpec.witness6 (enc := enc) (C := Tryz.checked) false ⟨#[],#[.slice none 0 0,.slice none 0 0],[]⟩ 8 (by kernel_rfl) (by kernel_rfl) (by kernel_rfl) (by kernel_rfl)) ?_
 intro W base args ds gs before hval0 hW hcnd hsz0 _
 have hval : ∀ (j : Nat) t v,Tryz.f12.params[j]? = some t → args[j]? = some v → Value.okWide Tryz.prog W .any base t v := hval0
 have hW' := hW
 obtain ⟨p,q,hA0,hV,rfl,hfz,hnd⟩ := hW
 have hA : DataW.TrodAll enc Tryz.prog W 0 (fun _ => true) true Tryz.f12.params.toList args.toList ds p := hA0
 rw [Tryz.params12] at hA hval
 obtain ⟨v0,vs0,d0,ds0,p0,q0,hargs,rfl,rfl,h0,r0⟩ := trodAll_cons hA
 obtain ⟨v1,vs1,d1,ds1,p1,q1,rfl,rfl,rfl,h1,r1⟩ := trodAll_cons r0
 obtain ⟨rfl,rfl,rfl⟩ := trodAll_nil r1
 obtain rfl : args = #[v0,v1] := by cases args;simp_all
 obtain ⟨rfl,rfl⟩ := trodVars_none hV
 obtain ⟨a0,len0,cap0,rfl⟩ := okWide_slice Tryz.underlying22 (hval 0 22 v0 rfl rfl)
 have k0 := h0
 have lt0 : ∀ x ∈ p0,x.block < W.heap.size := by obtain ⟨m,hm⟩ := k0;exact DataW.trod_lt m _ _ _ hm
 obtain ⟨z0,w0⟩ : ∃ zs,IsRow .u8 W a0 len0 cap0 zs := by
  obtain ⟨fuel,hf⟩ := h0
  rcases open_ints Tryz.underlying22 Tryz.underlying5 (by kernel_rfl) hf with ⟨hcs,_⟩ | ⟨x,l,c,zs,hcs,_,hl,hm,hz,_,hcell,hwz⟩
  ·simp [Value.cells] at hcs
   obtain ⟨rfl,rfl,rfl⟩ := hcs
   exact ⟨[],.inl ⟨rfl,rfl,rfl,rfl⟩⟩
  ·simp [Value.cells] at hcs
   obtain ⟨rfl,rfl,rfl⟩ := hcs
   exact ⟨zs,.inr ⟨_,rfl,hl,hm,by simpa using hz,hcell,hwz⟩⟩
 obtain ⟨a1,len1,cap1,rfl⟩ := okWide_slice Tryz.underlying22 (hval 1 22 v1 rfl rfl)
 have k1 := h1
 have lt1 : ∀ x ∈ p1,x.block < W.heap.size := by obtain ⟨m,hm⟩ := k1;exact DataW.trod_lt m _ _ _ hm
 obtain ⟨z1,w1⟩ : ∃ zs,IsRow .u8 W a1 len1 cap1 zs := by
  obtain ⟨fuel,hf⟩ := h1
  rcases open_ints Tryz.underlying22 Tryz.underlying5 (by kernel_rfl) hf with ⟨hcs,_⟩ | ⟨x,l,c,zs,hcs,_,hl,hm,hz,_,hcell,hwz⟩
  ·simp [Value.cells] at hcs
   obtain ⟨rfl,rfl,rfl⟩ := hcs
   exact ⟨[],.inl ⟨rfl,rfl,rfl,rfl⟩⟩
  ·simp [Value.cells] at hcs
   obtain ⟨rfl,rfl,rfl⟩ := hcs
   exact ⟨zs,.inr ⟨_,rfl,hl,hm,by simpa using hz,hcell,hwz⟩⟩
 clear hA0 hval0 hsz0
 obtain ⟨l,hl⟩ := w0.by
 obtain ⟨l1,hl1⟩ := w1.by
 refine (wldNoise_law l l1 _ _ (all W) hl hl1 W (fun _ => False) (all_wok W) (fun _ h => h)).mono fun e W' ⟨v,z',A',F',he,⟨_,hv⟩,_,ok⟩ => ?_
 subst he;subst hv
 have bel : Below W.heap.size W W' := ⟨ok.os,ok.tape,ok.output,ok.size,fun k hk => ok.unt k hk id⟩
 exact ⟨_,rfl,_,_,_,[],_,[],hW',trodAll_mk1 (shut_bool Tryz.underlying4 _),(trodAll_cons_mk (Below.trod laidOut (by kernel_rfl) (of_decide_eq_true (by kernel_rfl)) k0 bel lt0) (trodAll_cons_mk (Below.trod laidOut (by kernel_rfl) (of_decide_eq_true (by kernel_rfl)) k1 bel lt1) trodAll_mk0)),rfl,bel.frame _,fun h => by cases h⟩
theorem over : Rows.fnWldNoiseRow.holds Tryz.pinned (OpenSpec.ofChange Rows.fnWldNoiseSpec) :=
 OpenClaim.holds_of_wide 12 Tryz.f12 rfl rfl rfl rfl rfl rfl rfl ⟨rfl,rfl,rfl,rfl,rfl⟩ rfl rfl rfl rfl rfl (by kernel_rfl) Tryz.func12 (by kernel_rfl)
  (of_decide_eq_true (by kernel_rfl)) (by unfold Func.isWrapper;first | (rw [if_pos (by decide +kernel)];kernel_rfl) | (rw [if_neg (by decide +kernel)];exact ⟨rfl,rfl⟩))
  (fun os started H enc _ => lifted os started H enc)
theorem proved : Rows.FnWldNoiseSaid := over
end Go.Proofs.YtllafcmkppmdgaaGreat.fnWldNoise
namespace Go.Proofs.YtllafcmkppmdgaaGreat
theorem fnWldNoise_holds : Rows.FnWldNoiseSaid := fnWldNoise.proved
end Go.Proofs.YtllafcmkppmdgaaGreat
