/- Two ends copied, by the reference. · What all laws ask. · Codes of functions, group Li. · What the laws compare. · The engine: a region that draws its order, by what stands whatever the order. · Codes of functions, group Cfg. · What one wants, drawn. · What one wants, drawn: the steps. -/
import Derived.Test.YtllafcmkppmdgaaGreatB12
import Derived.Test.YtllafcmkppmdgaaGreatB6
import Derived.Test.YtllafcmkppmdgaaGreatProg
import Derived.Orders
namespace Go.Proofs.YtllafcmkppmdgaaGreat
open Go.RowKit
set_option linter.unusedVariables false
set_option linter.unusedSimpArgs false
set_option maxRecDepth 100000
set_option maxHeartbeats 4000000
def delL : List Nat → Ents → Ents
 | [], L => L
 | k :: ks, L => delL ks (del k L)
theorem loop_updF {P : Program} {ic : IC} {s : St} {K : Exit → St → Prop} {ι : Type} {n : Nat} (ks : List Nat) (I : ι → Prop) (upd : ι → List (Nat × SV)) (L : ι → Ents) (z : ι → Zc) (μ : ι → Nat) (i0 : ι) (hi : I i0) {T : List SV} (hT : anyL (wrI ic) s.t = T) {Lf : Ents} (hF : delL ks s.L = Lf) (h0 : Le s ⟨updL (upd i0) T, L i0 ++ Lf, z i0, n⟩)
  (hb : ∀ i, I i → vcI P ic ⟨updL (upd i) T, L i ++ Lf, z i, n⟩ (loopK I (fun i => ⟨updL (upd i) T, L i ++ Lf, z i, n⟩) μ K i)) : loopV P ic s K := loop_upd I upd (fun i => L i ++ Lf) z μ i0 hi hT h0 hb
theorem callM.tf' {P : Program} {f : FuncId} {args : List Operand} {d : Option Nat} {s s' : St} {K : St → Prop} (t : Tf s s') (h : callM P f args d s' K) : callM P f args d s K := h.tf t
theorem appM.frz {P : Program} {ty : TypeId} {x y : Operand} {d : Option Nat} {s : St} {K : St → Prop} (k : Nat) {e : TypeId} {cs : List SC} {vs : List Value} (hk : look k s.L = some (.cells e cs)) (hv : allV cs = some vs) (h : ∀ b z', s.z ≤ z' → RdAt z' (some ⟨b, 0, none⟩) 0 vs → appM P ty x y d (Go.Proofs.YtllafcmkppmdgaaGreat.frz s k b z') K) : appM P ty x y d s K := fun o h1 h2 => opM.frz hk hv fun b z' g1 g2 => h b z' g1 g2 o h1 h2
structure CpyS where
 i : Nat
 A : Option Addr
 C : Nat
 ms : List (Option Addr × Nat)
 z : Zc
theorem take_snoc' {α : Type} {l : List α} {i : Nat} {x : α} (h : l[i]? = some x) : l.take (i + 1) = l.take i ++ [x] := by rw [List.take_add_one, h]; rfl
theorem Els.one1 {α : Type} {d : Rep α} {z : Zc} {l : List α} {A : Option Addr} {c : Nat} (h : Sl d z l (.slice A l.length c)) : ∃ cs, Els d z l cs ∧ RdAt z A 0 cs := by
 obtain ⟨A', c', cs, e, _, h1, h2⟩ := h
 injection e with e _ _
 subst e
 exact ⟨cs, h1, h2⟩
theorem copy_s (c : Cfg) (link : Int) (e0 e1 : End) (n0 n1 : List Msg) (m : WM) (z : Zc) (hP : WldP z e0 e1 n0 n1 m) (hW : WldI ⟨c, [e0, e1], [n0, n1], link⟩) : Spec Tryz.prog 64 [wldV c link m] z emp (WldH c ⟨c, [e0, e1], [n0, n1], link⟩) := by
 have hI0 : EndI c e0 := hW.ends 0 (by omega)
 have hI1 : EndI c e1 := hW.ends 1 (by omega)
 have hN0 : NetI n0 := hW.net 0 (by omega)
 have hN1 : NetI n1 := hW.net 1 (by omega)
 have hE : IsAt m.E := hP.E.isAt (by rw [endsC_len]; omega)
 have hN : IsAt m.N := hP.N.isAt (by simp)
 have hmps := hI0.ctx.cfg.mps
 refine eA k64 ?_
 refine gO ?_
 refine loopV.tf (Tf.nilRow 110 tyE 28 rfl) ?_
 refine loopV.tf (Tf.nilRow 111 tyN 1 rfl) ?_
 dsimp only
 refine loopV.rounds 3 ?_
 rw [roundsV_succ]
 refine gO ?_
 try simp only [seval, go_sem, show decide ((0 : Int) < ((2 : Nat) : Int)) = true from rfl]
 refine gO ?_
 ((first | refine ⟨⟨by omega, hE⟩, ?_⟩ | refine ⟨hE, ?_⟩); (try simp only [seval, go_sem]))
 refine ldF.agg (sz := 28) _ rfl (by exact .inl (hP.E.sub 0 _ (fun i u hu => ends_get0 hu))) ?_
 simp only [seval, go_sem, endC]
 refine gO ?_
 refine tT ?_; refine callO 60 (l6copy e0.tx _ _ z hP.e0.fl hP.e0.qu (by have := hI0.tx.win; have := hI0.tx.cfg.win; omega) (by have := hI0.tx.queue; omega) (fun p hp => by have := hI0.tx.fl p hp; omega) (fun p hp => by have := hI0.tx.qu p hp; omega)) rfl rfl rfl ?_; rintro u az1 A' haz1 ⟨afA, afC, aqA, aqC, afV, aqV, rfl, rfl, ahfc, ahqc, ahfe, ahqe⟩; refine gO ?_
 refine callM.tf' (Tf.open' 60 [20, 21] rfl rfl rfl) ?_
 simp only [seval, go_sem, zipL]
 refine tT ?_; refine callP (l7copy e0.rx _ az1 (Sl.mono haz1 hP.e0.jo) (by have := hI0.rx.join.le; omega)) rfl rfl ?_; rintro u az2 haz2 ⟨ajA, ajC, rfl, ahj⟩; refine gO ?_
 have haz02 := Zc.trans' haz1 haz2
 refine tT ?_; refine callO 61 (l8tx e0.ctx _ az2 (Sl.mono haz02 hP.e0.cq) (by have := hI0.ctx.queue; omega) (fun p hp => by have := hI0.ctx.qu p hp; omega)) rfl rfl rfl ?_; rintro u az3 A' haz3 ⟨acA, acC, acV, rfl, rfl, ahcc, ahce⟩; refine gO ?_
 (first | refine callT.frzR 61 rfl (fun A4 c4 az4 hv4 hc4 haz4 ahcr => ?_) | refine callM.frzR 61 rfl (fun A4 c4 az4 hv4 hc4 haz4 ahcr => ?_)); dsimp only at haz4; (injection hv4 with hv_1 hv_2 hv_3; subst hv_1; subst hv_3); simp only [seval, go_sem]
 have haz04 := Zc.trans' haz02 (Zc.trans' haz3 haz4)
 refine tT ?_; refine callP (l8rx e0.crx _ az4 (Sl.mono haz04 hP.e0.kj) (by have := hI0.crx.2.le; omega)) rfl rfl ?_; rintro u az5 haz5 ⟨akA, akC, rfl, ahkj⟩; refine gO ?_
 have haz05 := Zc.trans' haz04 haz5
 refine tT ?_; refine callO 22 (l7sdus_s e0.put _ az5 (Sl.mono haz05 hP.e0.pu) (by have := hI0.put.1; omega) (fun p hp => by have := hI0.put.2 p hp; omega)) rfl rfl rfl ?_; rintro u az6 A' haz6 ⟨apA, apC, apV, rfl, rfl, ahpc, ahpe⟩; refine gO ?_
 have haz06 := Zc.trans' haz05 haz6
 refine tT ?_; refine callO 23 (l7sdus_s e0.got _ az6 (Sl.mono haz06 hP.e0.go) (by have := hI0.got.1; omega) (fun p hp => by have := hI0.got.2 p hp; omega)) rfl rfl rfl ?_; rintro u az7 A' haz7 ⟨agA, agC, agV, rfl, rfl, ahgc, ahge⟩; refine gO ?_
 have haz07 := Zc.trans' haz06 haz7
 refine aT ?_; (refine appM_newF 110 atyE rfl rfl rfl rfl rfl rfl rfl (by simp [Value.oneCell']) (by omega) (fun aE aEC haE haEx => ?_)); refine gO ?_
 simp only [seval, go_sem, roundK_normal]
 rw [roundsV_succ]
 try simp only [show IntKind.i64.wrap 1 = 1 from rfl]
 have hP1 := hP.mono haz07
 refine gO ?_
 try simp only [seval, go_sem, show decide ((1 : Int) < ((2 : Nat) : Int)) = true from rfl]
 refine gO ?_
 ((first | refine ⟨⟨by omega, hE⟩, ?_⟩ | refine ⟨hE, ?_⟩); (try simp only [seval, go_sem]))
 refine ldF.agg (sz := 28) _ rfl (by exact .inl (hP1.E.sub 28 _ (fun i u hu => ends_get1 hu))) ?_
 simp only [seval, go_sem, endC]
 refine gO ?_
 refine tT ?_; refine callO 62 (l6copy e1.tx _ _ az7 hP1.e1.fl hP1.e1.qu (by have := hI1.tx.win; have := hI1.tx.cfg.win; omega) (by have := hI1.tx.queue; omega) (fun p hp => by have := hI1.tx.fl p hp; omega) (fun p hp => by have := hI1.tx.qu p hp; omega)) rfl rfl rfl ?_; rintro u bz1 A' hbz1 ⟨bfA, bfC, bqA, bqC, bfV, bqV, rfl, rfl, bhfc, bhqc, bhfe, bhqe⟩; refine gO ?_
 refine callM.tf' (Tf.open' 62 [30, 31] rfl rfl rfl) ?_
 simp only [seval, go_sem, zipL]
 refine tT ?_; refine callP (l7copy e1.rx _ bz1 (Sl.mono hbz1 hP1.e1.jo) (by have := hI1.rx.join.le; omega)) rfl rfl ?_; rintro u bz2 hbz2 ⟨bjA, bjC, rfl, bhj⟩; refine gO ?_
 have hbz02 := Zc.trans' hbz1 hbz2
 refine tT ?_; refine callO 63 (l8tx e1.ctx _ bz2 (Sl.mono hbz02 hP1.e1.cq) (by have := hI1.ctx.queue; omega) (fun p hp => by have := hI1.ctx.qu p hp; omega)) rfl rfl rfl ?_; rintro u bz3 A' hbz3 ⟨bcA, bcC, bcV, rfl, rfl, bhcc, bhce⟩; refine gO ?_
 (first | refine callT.frzR 63 rfl (fun A4 c4 bz4 hv4 hc4 hbz4 bhcr => ?_) | refine callM.frzR 63 rfl (fun A4 c4 bz4 hv4 hc4 hbz4 bhcr => ?_)); dsimp only at hbz4; (injection hv4 with hv_1 hv_2 hv_3; subst hv_1; subst hv_3); simp only [seval, go_sem]
 have hbz04 := Zc.trans' hbz02 (Zc.trans' hbz3 hbz4)
 refine tT ?_; refine callP (l8rx e1.crx _ bz4 (Sl.mono hbz04 hP1.e1.kj) (by have := hI1.crx.2.le; omega)) rfl rfl ?_; rintro u bz5 hbz5 ⟨bkA, bkC, rfl, bhkj⟩; refine gO ?_
 have hbz05 := Zc.trans' hbz04 hbz5
 refine tT ?_; refine callO 32 (l7sdus_s e1.put _ bz5 (Sl.mono hbz05 hP1.e1.pu) (by have := hI1.put.1; omega) (fun p hp => by have := hI1.put.2 p hp; omega)) rfl rfl rfl ?_; rintro u bz6 A' hbz6 ⟨bpA, bpC, bpV, rfl, rfl, bhpc, bhpe⟩; refine gO ?_
 have hbz06 := Zc.trans' hbz05 hbz6
 refine tT ?_; refine callO 33 (l7sdus_s e1.got _ bz6 (Sl.mono hbz06 hP1.e1.go) (by have := hI1.got.1; omega) (fun p hp => by have := hI1.got.2 p hp; omega)) rfl rfl rfl ?_; rintro u bz7 A' hbz7 ⟨bgA, bgC, bgV, rfl, rfl, bhgc, bhge⟩; refine gO ?_
 have hbz07 := Zc.trans' hbz06 hbz7
 refine aT ?_; (refine appM_newF 110 atyE rfl rfl rfl rfl rfl rfl rfl (by simp [Value.oneCell']) (by omega) (fun bE bEC hbE hbEx => ?_)); refine gO ?_
 simp only [seval, go_sem, roundK_normal]
 rw [roundsV_succ]
 try simp only [show IntKind.i64.wrap 2 = 2 from rfl]
 refine gO ?_
 try simp only [seval, go_sem, show decide ((2 : Int) < ((2 : Nat) : Int)) = false from rfl]
 refine gO ?_
 simp only [seval, go_sem, roundK_exit]
 refine gO ?_
 have hP2 := hP1.mono hbz07
 refine loopV.rounds 3 ?_
 rw [roundsV_succ]
 refine gO ?_
 try simp only [seval, go_sem, show decide ((0 : Int) < ((2 : Nat) : Int)) = true from rfl]
 refine gO ?_
 obtain ⟨cs0, he0, hr0⟩ := Els.one1 hP2.n0
 refine loopV.toRow 40 7 rfl rfl (m := 0) (sz := 2) rfl (by omega) (fun b0 => ?_)
 simp only [seval, go_sem, rowSt, subV, subC, subE, subL]
 refine loopV.tf (Tf.addE 41 rfl) ?_
 dsimp only
 refine loop_updF (n := 8) [40, 41] (ι := CpyS) (fun s => bz7 ≤ s.z ∧ s.i ≤ n0.length ∧ netO (n0.take s.i) s.ms ∧ s.i ≤ s.C) (fun s => [(8, .c (.v (.int .i64 s.i))), (7, .c (.v (.slice s.A s.i s.C)))]) (fun s => [(40, .own (rowA tyM 2 (.slice s.A s.i s.C) s.i (netV (n0.take s.i) s.ms))), (41, .own (starL (netB (n0.take s.i) s.ms)))]) (fun s => s.z) (fun s => n0.length - s.i) ⟨0, some ⟨b0, 0, none⟩, 0, [], bz7⟩ ⟨Zc.rfl' _, by simp, trivial, Nat.le_refl _⟩ (by (simp only [wrI, wrR, anyL, st, List.append_nil, List.nil_append, List.cons_append]); exact rfl) (by simp only [delL, del, Nat.reduceEqDiff, reduceCtorEq, if_true, if_false, reduceIte, Nat.succ_ne_self]; exact rfl) ?_ ?_
 ·simp only [List.cons_append, List.nil_append, List.take_zero, netV, netB]
  exact lX
 ·rintro ⟨i, vA0, vC0, ms0, y0⟩ ⟨hy0, hi, hok0, hiC0⟩
  dsimp only at *
  simp only [List.cons_append, List.nil_append]
  refine gO ?_
  ((first | refine ⟨⟨by omega, hN⟩, ?_⟩ | refine ⟨hN, ?_⟩); (try simp only [seval, go_sem]))
  (refine ldF.one _ (by first | exact .inl ((hP2.N.mono hy0).cell 0 rfl) | exact ((hP2.N.mono hy0).cell 0 rfl)) ?_; (try simp only [seval, go_sem]))
  refine gO ?_
  (with_reducible refine condI.split (fun hg => ?_) (fun hg => ?_) <;> (try simp only [hg]) <;> (try simp only [seval, go_sem]))
  ·have hi' : i < n0.length := by have := of_decide_eq_true hg; omega
   obtain ⟨x, hx⟩ : ∃ x, n0[i]? = some x := ⟨_, List.getElem?_eq_getElem hi'⟩
   obtain ⟨c1, ⟨v1, rfl, hb⟩, hr1⟩ := (he0.mono hy0).at (hr0.mono hy0) hx
   obtain ⟨A1, k1, rfl, hk1, hB1, hrb⟩ := By.form hb
   have hat : IsAt m.n0.A := he0.isAt hr0 (by decide) hi'
   have h15 := hN0.2 x (List.mem_of_getElem? hx)
   have hls := hok0.len
   have hn30 := hN0.1
   have htl : (n0.take i).length = i := by simp; omega
   have hvl := netV_len hok0
   refine gO ?_
   ((first | refine ⟨⟨by omega, hN⟩, ?_⟩ | refine ⟨hN, ?_⟩); (try simp only [seval, go_sem]))
   (refine ldF.one _ (by first | exact .inl ((hP2.N.mono hy0).cell 0 rfl) | exact ((hP2.N.mono hy0).cell 0 rfl)) ?_; (try simp only [seval, go_sem]))
   (refine ⟨⟨by omega, by omega, hat⟩, ?_⟩; (try simp only [seval, go_sem]))
   (refine ldF.one _ (by first | exact .inl (hr1.cell 0 rfl) | exact (hr1.cell 0 rfl)) ?_; (try simp only [seval, go_sem]))
   ((first | refine ⟨⟨by omega, hN⟩, ?_⟩ | refine ⟨hN, ?_⟩); (try simp only [seval, go_sem]))
   (refine ldF.one _ (by first | exact .inl ((hP2.N.mono hy0).cell 0 rfl) | exact ((hP2.N.mono hy0).cell 0 rfl)) ?_; (try simp only [seval, go_sem]))
   (refine ⟨⟨by omega, by omega, hat⟩, ?_⟩; (try simp only [seval, go_sem]))
   (refine ldF.one _ (by first | exact .inl (hr1.cell 1 rfl) | exact (hr1.cell 1 rfl)) ?_; (try simp only [seval, go_sem]))
   by_cases h0 : x.bytes.length = 0
   ·have hbn : x.bytes = [] := List.eq_nil_of_length_eq_zero h0
    simp only [h0]
    refine aT ?_; (refine appM_zero atyB (by first | exact .inl ⟨_, _, _, Nat.le_refl _, rfl⟩ | exact .inr ⟨_, _, rfl⟩) rfl ?_); refine gO ?_
    refine appM.frz 8 rfl rfl (fun b9 z9 hz9 hr9 => ?_)
    simp only [seval, go_sem, Go.Proofs.YtllafcmkppmdgaaGreat.frz, subV, subC, subE, subL]
    refine aT ?_; (refine appM_newF 40 atyMs rfl rfl rfl rfl rfl rfl rfl (by simp [Value.oneCell']) (by omega) (fun A6 c6 hc6 hat6 => ?_)); simp only [seval, go_sem]
    refine vsI.tf (Tf.addE 95 rfl) ?_
    dsimp only
    refine vsI.tf (Tf.pack 41 [41, 95] (by simp only [popL, look, del, Nat.reduceEqDiff, reduceCtorEq, if_true, if_false, reduceIte, Nat.succ_ne_self]; exact rfl) (by simp only [look, Nat.reduceEqDiff, reduceCtorEq, if_true, if_false, reduceIte])) ?_
    dsimp only
    refine vsI.tf (Tf.own 41 rfl rfl (fun w F h => starL_push h)) ?_
    dsimp only
    refine gO ?_
    have hbe : bysA x.bytes (some ⟨b9, 0, none⟩) 0 = starL [] := by unfold bysA; rw [if_pos hbn]; rfl
    dsimp only at hz9
    refine ⟨⟨i + 1, A6, c6, ms0 ++ [(some ⟨b9, 0, none⟩, 0)], z9⟩, ⟨Zc.trans' hy0 hz9, by dsimp only; omega, by dsimp only; rw [take_snoc' hx]; exact hok0.snoc (by omega) hB1, hc6⟩, by dsimp only; omega, ?_⟩
    simp only [List.cons_append, List.nil_append, take_snoc' hx, netV_snoc _ x _ _ _ hls, netB_snoc _ x _ _ _ hls, hbe, h0]
    exact lX
   ·refine aT ?_; (refine appM_emptyO 95 atyB rfl (by first | exact .inl ⟨_, rfl⟩ | exact .inr ⟨_, _, rfl⟩) rfl (hrb) (by first | omega | (simp <;> omega)) (bc_one _) (by omega) (by omega) (fun A5 c5 hc5 => ?_)); refine gO ?_
    refine aT ?_; (refine appM_newF 40 atyMs rfl rfl rfl rfl rfl rfl rfl (by simp [Value.oneCell']) (by omega) (fun A6 c6 hc6 hat6 => ?_)); simp only [seval, go_sem]
    refine vsI.tf (Tf.pack 41 [41, 95] (by simp only [popL, look, del, Nat.reduceEqDiff, reduceCtorEq, if_true, if_false, reduceIte, Nat.succ_ne_self]; exact rfl) (by simp only [look, Nat.reduceEqDiff, reduceCtorEq, if_true, if_false, reduceIte])) ?_
    dsimp only
    refine vsI.tf (Tf.own 41 rfl rfl (fun w F h => starL_push h)) ?_
    dsimp only
    refine gO ?_
    have hbe : bysA x.bytes A5 c5 = rowA tyB 1 (.slice A5 x.bytes.length c5) x.bytes.length (bc x.bytes) := by unfold bysA; rw [if_neg (List.ne_nil_of_length_pos (by omega))]
    refine ⟨⟨i + 1, A6, c6, ms0 ++ [(A5, c5)], y0⟩, ⟨hy0, by dsimp only; omega, by dsimp only; rw [take_snoc' hx]; exact hok0.snoc hc5 hB1, hc6⟩, by dsimp only; omega, ?_⟩
    simp only [List.cons_append, List.nil_append, take_snoc' hx, netV_snoc _ x _ _ _ hls, netB_snoc _ x _ _ _ hls, hbe]
    exact lX
  ·have hil : i = n0.length := by have := of_decide_eq_false hg; omega
   subst hil
   rw [List.take_length] at hok0
   simp only [List.take_length]
   refine gO ?_
   refine aT ?_; (refine appM_newF 111 atyN rfl rfl rfl rfl rfl rfl rfl (by simp [Value.oneCell']) (by omega) (fun NA0 NC0 hN0a hN0x => ?_)); refine gO ?_
   simp only [seval, go_sem, roundK_normal]
   rw [roundsV_succ]
   try simp only [show IntKind.i64.wrap 1 = 1 from rfl]
   have hP3 := hP2.mono hy0
   refine gO ?_
   try simp only [seval, go_sem, show decide ((1 : Int) < ((2 : Nat) : Int)) = true from rfl]
   refine gO ?_
   obtain ⟨cs1x, he1, hr1x⟩ := Els.one1 hP3.n1
   refine loopV.toRow 50 9 rfl rfl (m := 0) (sz := 2) rfl (by omega) (fun b0 => ?_)
   simp only [seval, go_sem, rowSt, subV, subC, subE, subL]
   refine loopV.tf (Tf.addE 51 rfl) ?_
   dsimp only
   refine loop_updF (n := 10) [50, 51] (ι := CpyS) (fun s => y0 ≤ s.z ∧ s.i ≤ n1.length ∧ netO (n1.take s.i) s.ms ∧ s.i ≤ s.C) (fun s => [(8, .c (.v (.int .i64 s.i))), (7, .c (.v (.slice s.A s.i s.C)))]) (fun s => [(50, .own (rowA tyM 2 (.slice s.A s.i s.C) s.i (netV (n1.take s.i) s.ms))), (51, .own (starL (netB (n1.take s.i) s.ms)))]) (fun s => s.z) (fun s => n1.length - s.i) ⟨0, some ⟨b0, 0, none⟩, 0, [], y0⟩ ⟨Zc.rfl' _, by simp, trivial, Nat.le_refl _⟩ (by (simp only [wrI, wrR, anyL, st, List.append_nil, List.nil_append, List.cons_append]); exact rfl) (by simp only [delL, del, Nat.reduceEqDiff, reduceCtorEq, if_true, if_false, reduceIte, Nat.succ_ne_self]; exact rfl) ?_ ?_
   ·simp only [List.cons_append, List.nil_append, List.take_zero, netV, netB]
    exact lX
   ·rintro ⟨i, vA1, vC1, ms1, y1⟩ ⟨hy1, hi, hok1, hiC1⟩
    dsimp only at *
    simp only [List.cons_append, List.nil_append]
    refine gO ?_
    ((first | refine ⟨⟨by omega, hN⟩, ?_⟩ | refine ⟨hN, ?_⟩); (try simp only [seval, go_sem]))
    (refine ldF.one _ (by first | exact .inl ((hP3.N.mono hy1).cell 1 rfl) | exact ((hP3.N.mono hy1).cell 1 rfl)) ?_; (try simp only [seval, go_sem]))
    refine gO ?_
    (with_reducible refine condI.split (fun hg => ?_) (fun hg => ?_) <;> (try simp only [hg]) <;> (try simp only [seval, go_sem]))
    ·have hi' : i < n1.length := by have := of_decide_eq_true hg; omega
     obtain ⟨x, hx⟩ : ∃ x, n1[i]? = some x := ⟨_, List.getElem?_eq_getElem hi'⟩
     obtain ⟨c1, ⟨v1, rfl, hb⟩, hr1⟩ := (he1.mono hy1).at (hr1x.mono hy1) hx
     obtain ⟨A1, k1, rfl, hk1, hB1, hrb⟩ := By.form hb
     have hat : IsAt m.n1.A := he1.isAt hr1x (by decide) hi'
     have h15 := hN1.2 x (List.mem_of_getElem? hx)
     have hls := hok1.len
     have hn30 := hN1.1
     have htl : (n1.take i).length = i := by simp; omega
     have hvl := netV_len hok1
     refine gO ?_
     ((first | refine ⟨⟨by omega, hN⟩, ?_⟩ | refine ⟨hN, ?_⟩); (try simp only [seval, go_sem]))
     (refine ldF.one _ (by first | exact .inl ((hP3.N.mono hy1).cell 1 rfl) | exact ((hP3.N.mono hy1).cell 1 rfl)) ?_; (try simp only [seval, go_sem]))
     (refine ⟨⟨by omega, by omega, hat⟩, ?_⟩; (try simp only [seval, go_sem]))
     (refine ldF.one _ (by first | exact .inl (hr1.cell 0 rfl) | exact (hr1.cell 0 rfl)) ?_; (try simp only [seval, go_sem]))
     ((first | refine ⟨⟨by omega, hN⟩, ?_⟩ | refine ⟨hN, ?_⟩); (try simp only [seval, go_sem]))
     (refine ldF.one _ (by first | exact .inl ((hP3.N.mono hy1).cell 1 rfl) | exact ((hP3.N.mono hy1).cell 1 rfl)) ?_; (try simp only [seval, go_sem]))
     (refine ⟨⟨by omega, by omega, hat⟩, ?_⟩; (try simp only [seval, go_sem]))
     (refine ldF.one _ (by first | exact .inl (hr1.cell 1 rfl) | exact (hr1.cell 1 rfl)) ?_; (try simp only [seval, go_sem]))
     by_cases h0 : x.bytes.length = 0
     ·have hbn : x.bytes = [] := List.eq_nil_of_length_eq_zero h0
      simp only [h0]
      refine aT ?_; (refine appM_zero atyB (by first | exact .inl ⟨_, _, _, Nat.le_refl _, rfl⟩ | exact .inr ⟨_, _, rfl⟩) rfl ?_); refine gO ?_
      refine appM.frz 10 rfl rfl (fun b9 z9 hz9 hr9 => ?_)
      simp only [seval, go_sem, Go.Proofs.YtllafcmkppmdgaaGreat.frz, subV, subC, subE, subL]
      refine aT ?_; (refine appM_newF 50 atyMs rfl rfl rfl rfl rfl rfl rfl (by simp [Value.oneCell']) (by omega) (fun A6 c6 hc6 hat6 => ?_)); simp only [seval, go_sem]
      refine vsI.tf (Tf.addE 95 rfl) ?_
      dsimp only
      refine vsI.tf (Tf.pack 51 [51, 95] (by simp only [popL, look, del, Nat.reduceEqDiff, reduceCtorEq, if_true, if_false, reduceIte, Nat.succ_ne_self]; exact rfl) (by simp only [look, Nat.reduceEqDiff, reduceCtorEq, if_true, if_false, reduceIte])) ?_
      dsimp only
      refine vsI.tf (Tf.own 51 rfl rfl (fun w F h => starL_push h)) ?_
      dsimp only
      refine gO ?_
      have hbe : bysA x.bytes (some ⟨b9, 0, none⟩) 0 = starL [] := by unfold bysA; rw [if_pos hbn]; rfl
      dsimp only at hz9
      refine ⟨⟨i + 1, A6, c6, ms1 ++ [(some ⟨b9, 0, none⟩, 0)], z9⟩, ⟨Zc.trans' hy1 hz9, by dsimp only; omega, by dsimp only; rw [take_snoc' hx]; exact hok1.snoc (by omega) hB1, hc6⟩, by dsimp only; omega, ?_⟩
      simp only [List.cons_append, List.nil_append, take_snoc' hx, netV_snoc _ x _ _ _ hls, netB_snoc _ x _ _ _ hls, hbe, h0]
      exact lX
     ·refine aT ?_; (refine appM_emptyO 95 atyB rfl (by first | exact .inl ⟨_, rfl⟩ | exact .inr ⟨_, _, rfl⟩) rfl (hrb) (by first | omega | (simp <;> omega)) (bc_one _) (by omega) (by omega) (fun A5 c5 hc5 => ?_)); refine gO ?_
      refine aT ?_; (refine appM_newF 50 atyMs rfl rfl rfl rfl rfl rfl rfl (by simp [Value.oneCell']) (by omega) (fun A6 c6 hc6 hat6 => ?_)); simp only [seval, go_sem]
      refine vsI.tf (Tf.pack 51 [51, 95] (by simp only [popL, look, del, Nat.reduceEqDiff, reduceCtorEq, if_true, if_false, reduceIte, Nat.succ_ne_self]; exact rfl) (by simp only [look, Nat.reduceEqDiff, reduceCtorEq, if_true, if_false, reduceIte])) ?_
      dsimp only
      refine vsI.tf (Tf.own 51 rfl rfl (fun w F h => starL_push h)) ?_
      dsimp only
      refine gO ?_
      have hbe : bysA x.bytes A5 c5 = rowA tyB 1 (.slice A5 x.bytes.length c5) x.bytes.length (bc x.bytes) := by unfold bysA; rw [if_neg (List.ne_nil_of_length_pos (by omega))]
      refine ⟨⟨i + 1, A6, c6, ms1 ++ [(A5, c5)], y1⟩, ⟨hy1, by dsimp only; omega, by dsimp only; rw [take_snoc' hx]; exact hok1.snoc hc5 hB1, hc6⟩, by dsimp only; omega, ?_⟩
      simp only [List.cons_append, List.nil_append, take_snoc' hx, netV_snoc _ x _ _ _ hls, netB_snoc _ x _ _ _ hls, hbe]
      exact lX
    ·have hil : i = n1.length := by have := of_decide_eq_false hg; omega
     subst hil
     rw [List.take_length] at hok1
     simp only [List.take_length]
     refine gO ?_
     refine aT ?_; (refine appM_newF 111 atyN rfl rfl rfl rfl rfl rfl rfl (by simp [Value.oneCell']) (by omega) (fun NA1 NC1 hN1a hN1x => ?_)); refine gO ?_
     simp only [seval, go_sem, roundK_normal]
     rw [roundsV_succ]
     try simp only [show IntKind.i64.wrap 2 = 2 from rfl]
     refine gO ?_
     try simp only [seval, go_sem, show decide ((2 : Int) < ((2 : Nat) : Int)) = false from rfl]
     refine gO ?_
     simp only [seval, go_sem, roundK_exit]
     refine gO ?_
     (refine FinV.pk 999 [110, 111, 20, 21, 22, 23, 30, 31, 32, 33, 40, 41, 50, 51] ?_); dsimp only
     refine fP ?_
     have t7 := Zc.trans' hbz07 (Zc.trans' hy0 hy1)
     have u7 := Zc.trans' hy0 hy1
     have t6 := Zc.trans' haz7 t7
     have u6 := Zc.trans' hbz7 u7
     have t5 := Zc.trans' haz6 t6
     have u5 := Zc.trans' hbz6 u6
     have t4 := Zc.trans' haz5 t5
     have u4 := Zc.trans' hbz5 u5
     have t3 := Zc.trans' haz4 t4
     have u3 := Zc.trans' hbz4 u4
     have t2 := Zc.trans' haz3 t3
     have u2 := Zc.trans' hbz3 u3
     have t1 := Zc.trans' haz2 t2
     have u1 := Zc.trans' hbz2 u2
     exact ⟨e0, e1, n0, n1, ⟨bE, bEC, NA1, NC1, ⟨afA, afC, afV, aqA, aqC, aqV, apA, apC, apV, agA, agC, agV, ajA, ajC, acA, acC, akA, akC⟩, ⟨bfA, bfC, bfV, bqA, bqC, bqV, bpA, bpC, bpV, bgA, bgC, bgV, bjA, bjC, bcA, bcC, bkA, bkC⟩, ⟨vA0, vC0, ms0⟩, ⟨vA1, vC1, ms1⟩⟩, rfl, rfl, rfl, rfl, rfl, ⟨⟨ahfe.mono t1, ahfc, ahqe.mono t1, ahqc, ahpe.mono t6, ahpc, ahge.mono t7, ahgc, Sl.mono t2 ahj, ⟨acA, acC, acV, rfl, ahcc, ahce.mono t3, ahcr.mono t4⟩, Sl.mono t5 ahkj⟩, ⟨bhfe.mono u1, bhfc, bhqe.mono u1, bhqc, bhpe.mono u6, bhpc, bhge.mono u7, bhgc, Sl.mono u2 bhj, ⟨bcA, bcC, bcV, rfl, bhcc, bhce.mono u3, bhcr.mono u4⟩, Sl.mono u5 bhkj⟩, ⟨hok0, hiC0⟩, ⟨hok1, hiC1⟩⟩⟩
set_option maxHeartbeats 1000000
theorem liok (z : Zc) : PSpec Tryz.prog 19 [] z fun w z' => w = .bool true ∧ z = z' := by
 refine eP k19 ?_
 refine gO ?_
 refine tT ?_; refine callP (cfgok_i ⟨1, 1, 1, 1, 1⟩ z) rfl rfl ?_; rintro _ _ - ⟨rfl, rfl⟩; refine gO ?_
 (first|refine fN ?_|exact fZ)
 exact ⟨rfl, trivial⟩
set_option maxHeartbeats 4000000
set_option linter.defProp false
def k49 := mkK [(.t 4)] [] [(6,[],.l [0,4,8,13,16,20,24,29,32])] Tryz.func49 Tryz.ntmps49 rfl
def k46 := mkK [(.t 4)] [] [(6,[],.l [0,4,8,13,16,20,24,29,34,36])] Tryz.func46 Tryz.ntmps46 rfl
set_option maxHeartbeats 1000000
theorem eq_of_take {α : Type} {a b : List α} {i : Nat} {x y : α} (hx : a[i]? = some x) (hy : b[i]? = some y) (h : a.take i = b.take i) (e : x = y) : a.take (i + 1) = b.take (i + 1) := by
 rw [List.take_add_one, List.take_add_one, hx, hy, h, e]
theorem ne_of_at {α : Type} {a b : List α} {i : Nat} {x y : α} (hx : a[i]? = some x) (hy : b[i]? = some y) (e : x ≠ y) : a ≠ b := fun h => by
 subst h; rw [hx] at hy; injection hy with hy; exact e hy
theorem libytes (a b : List Int) (v u : Value) (z : Zc) (h : By z a v) (h2 : By z b u) (hl : a.length ≤ 100000000) (hl2 : b.length ≤ 100000000) : PSpec Tryz.prog 49 [v, u] z fun w z' => w = .bool (decide (a = b)) ∧ z = z' := by
 obtain ⟨A, c, rfl, hc, hB, hr⟩ := h.form
 obtain ⟨A2, c2, rfl, hc2, hB2, hr2⟩ := h2.form
 refine eP k49 ?_
 refine gO ?_
 (with_reducible refine condI.split (fun hg => ?_) (fun hg => ?_) <;> (try simp only [hg]) <;> (try simp only [seval, go_sem]))
 ·(first|refine fN ?_|exact fZ)
  have hne : a.length ≠ b.length := fun e => by rw [e] at hg; simp at hg
  simp only [and_true]
  exact congrArg Value.bool (decide_eq_false fun e => hne (by rw [e])).symm
 ·have hle : a.length = b.length := by simp at hg; omega
  refine gO ?_
  refine loop_upd (ι := Nat) (n := 0) (fun i => i ≤ a.length ∧ a.take i = b.take i) (fun i => [(5, .c (.v (.int .i64 i)))]) (fun _ => []) (fun _ => z) (fun i => a.length - i) 0 (by simp) (by (simp only [wrI, wrR, anyL, st, List.append_nil, List.nil_append, List.cons_append]); exact rfl) ?_ ?_
  ·exact lE
  ·rintro i ⟨hi, ht⟩
   refine gO ?_
   (with_reducible refine condI.split (fun hg => ?_) (fun hg => ?_) <;> (try simp only [hg]) <;> (try simp only [seval, go_sem]))
   ·have hk : i < a.length := by have := of_decide_eq_true hg; omega
    obtain ⟨x, hx⟩ : ∃ x, a[i]? = some x := ⟨_, List.getElem?_eq_getElem hk⟩
    obtain ⟨y, hy⟩ : ∃ y, b[i]? = some y := ⟨_, List.getElem?_eq_getElem (by omega)⟩
    refine gO ?_
    (refine ⟨⟨by omega, by omega, byte_is hr hk⟩, ?_⟩; (try simp only [seval, go_sem]))
    (refine ldF.one _ (by first | exact .inl (byte_at hr hx) | exact (byte_at hr hx)) ?_; (try simp only [seval, go_sem]))
    (refine ⟨⟨by omega, by omega, byte_is hr2 (show i < b.length by omega)⟩, ?_⟩; (try simp only [seval, go_sem]))
    (refine ldF.one _ (by first | exact .inl (byte_at hr2 hy) | exact (byte_at hr2 hy)) ?_; (try simp only [seval, go_sem]))
    refine gO ?_
    (with_reducible refine condI.split (fun hg => ?_) (fun hg => ?_) <;> (try simp only [hg]) <;> (try simp only [seval, go_sem]))
    ·refine gO ?_
     (first|refine fN ?_|exact fZ)
     simp only [and_true]
     exact congrArg Value.bool (decide_eq_false (ne_of_at hx hy (by simpa using hg))).symm
    ·refine gO ?_
     refine ⟨i + 1, ⟨by omega, eq_of_take hx hy ht (by simpa using hg)⟩, by omega, ?_⟩
     exact lE
   ·refine gO ?_
    (first|refine fN ?_|exact fZ)
    have e : i = a.length := by have := of_decide_eq_false hg; omega
    rw [e, List.take_length, hle, List.take_length] at ht
    simp only [and_true]
    exact congrArg Value.bool (decide_eq_true ht).symm
theorem lisdus (a b : List (List Int)) (v u : Value) (z : Zc) (h : Sl sduRep z a v) (h2 : Sl sduRep z b u) (hl : a.length ≤ 100000000) (hl2 : b.length ≤ 100000000) (hm : ∀ x ∈ a, x.length ≤ 100000000) (hm2 : ∀ x ∈ b, x.length ≤ 100000000) : PSpec Tryz.prog 46 [v, u] z fun w z' => w = .bool (decide (a = b)) ∧ z = z' := by
 obtain ⟨A, c, cs, rfl, hc, hE, hr⟩ := h
 obtain ⟨A2, c2, cs2, rfl, hc2, hE2, hr2⟩ := h2
 refine eP k46 ?_
 refine gO ?_
 (with_reducible refine condI.split (fun hg => ?_) (fun hg => ?_) <;> (try simp only [hg]) <;> (try simp only [seval, go_sem]))
 ·(first|refine fN ?_|exact fZ)
  have hne : a.length ≠ b.length := fun e => by rw [e] at hg; simp at hg
  simp only [and_true]
  exact congrArg Value.bool (decide_eq_false fun e => hne (by rw [e])).symm
 ·have hle : a.length = b.length := by simp at hg; omega
  refine gO ?_
  refine loop_upd (ι := Nat) (n := 0) (fun i => i ≤ a.length ∧ a.take i = b.take i) (fun i => [(5, .c (.v (.int .i64 i)))]) (fun _ => []) (fun _ => z) (fun i => a.length - i) 0 (by simp) (by (simp only [wrI, wrR, anyL, st, List.append_nil, List.nil_append, List.cons_append]); exact rfl) ?_ ?_
  ·exact lE
  ·rintro i ⟨hi, ht⟩
   refine gO ?_
   (with_reducible refine condI.split (fun hg => ?_) (fun hg => ?_) <;> (try simp only [hg]) <;> (try simp only [seval, go_sem]))
   ·have hk : i < a.length := by have := of_decide_eq_true hg; omega
    obtain ⟨x, hx⟩ : ∃ x, a[i]? = some x := ⟨_, List.getElem?_eq_getElem hk⟩
    obtain ⟨y, hy⟩ : ∃ y, b[i]? = some y := ⟨_, List.getElem?_eq_getElem (by omega)⟩
    obtain ⟨_, ⟨s1, rfl, hs1⟩, hra⟩ := hE.at hr hx
    obtain ⟨_, ⟨s2, rfl, hs2⟩, hrb⟩ := hE2.at hr2 hy
    refine gO ?_
    (refine ⟨⟨by omega, by omega, hE.isAt hr (by decide) hk⟩, ?_⟩; (try simp only [seval, go_sem]))
    (refine ldF.one _ (by first | exact .inl hra | exact hra) ?_; (try simp only [seval, go_sem]))
    (refine ⟨⟨by omega, by omega, hE2.isAt hr2 (by decide) (show i < b.length by omega)⟩, ?_⟩; (try simp only [seval, go_sem]))
    (refine ldF.one _ (by first | exact .inl hrb | exact hrb) ?_; (try simp only [seval, go_sem]))
    refine tT ?_; refine callP (libytes x y s1 s2 z hs1 hs2 (hm _ (List.mem_of_getElem? hx)) (hm2 _ (List.mem_of_getElem? hy))) rfl rfl ?_; rintro _ _ - ⟨rfl, rfl⟩; refine gO ?_
    (with_reducible refine condI.split (fun hg => ?_) (fun hg => ?_) <;> (try simp only [hg]) <;> (try simp only [seval, go_sem]))
    ·refine gO ?_
     (first|refine fN ?_|exact fZ)
     simp only [and_true]
     exact congrArg Value.bool (decide_eq_false (ne_of_at hx hy (by simpa using hg))).symm
    ·refine gO ?_
     refine ⟨i + 1, ⟨by omega, eq_of_take hx hy ht (by simpa using hg)⟩, by omega, ?_⟩
     exact lE
   ·refine gO ?_
    (first|refine fN ?_|exact fZ)
    have e : i = a.length := by have := of_decide_eq_false hg; omega
    rw [e, List.take_length, hle, List.take_length] at ht
    simp only [and_true]
    exact congrArg Value.bool (decide_eq_true ht).symm
set_option maxRecDepth 512
set_option maxHeartbeats 200000
def rowOf (P : Program) (o : Oper) : IOp × Option Nat × List Nat × Bool := (tr P o.op, o.dst, (o.after.toList.filter (Region.binds .any)).map (·.on), o.guard.isNone)
def lst (l : Array Bool) (i : Nat) : Bool := l.getD i false
def upd (l : Nat → Bool) (i : Nat) (j : Nat) : Bool := if j = i then true else l j
theorem lst_set {l : Array Bool} {i : Nat} (h : i < l.size) : lst (l.setIfInBounds i true) = upd (lst l) i := funext fun j => by
 unfold lst upd
 by_cases e : j = i
 ·subst e; simp [h]
 ·rw [if_neg e, getD_set_ne false (fun h => e h.symm)]
theorem lst_none (n : Nat) : lst (Array.replicate n false) = fun _ => false := funext fun j => by
 unfold lst
 simp [Array.getElem?_replicate]
 split <;> rfl
def fwd : Nat → List (IOp × Option Nat × List Nat × Bool) → Bool
 | _, [] => true
 | n, r :: l => r.2.2.2 && r.2.2.1.all (fun j => decide (j < n)) && fwd (n + 1) l
theorem fwd_get : ∀ {l : List (IOp × Option Nat × List Nat × Bool)} {n i : Nat} {r : IOp × Option Nat × List Nat × Bool}, fwd n l = true → l[i]? = some r → r.2.2.2 = true ∧ ∀ j ∈ r.2.2.1, j < n + i
 | [], _, i, _, _, h => by cases i <;> cases h
 | x :: l, n, 0, r, h, hr => by
  injection hr with hr
  subst hr
  simp only [fwd, Bool.and_eq_true, List.all_eq_true, decide_eq_true_eq] at h
  exact ⟨h.1.1, h.1.2⟩
 | x :: l, n, i + 1, r, h, hr => by
  simp only [fwd, Bool.and_eq_true] at h
  obtain ⟨h1, h2⟩ := fwd_get h.2 hr
  exact ⟨h1, fun j hj => by have := h2 j hj; omega⟩
section
variable {P : Program} {ops : Array Oper} {C : Ctx} {K : Exit → St → Prop}
theorem ready_all {rows : List (IOp × Option Nat × List Nat × Bool)} (hr : ops.toList.map (rowOf P) = rows) (hf : fwd 0 rows = true) {l : Array Bool} (hl : l.size = ops.size) (h : Region.ready .any ops l = []) : ∀ i, i < ops.size → lst l i = true := by
 intro i
 induction i using Nat.strongRecOn with
 | _ i ih =>
  intro hi
  cases hc : lst l i with
  | true => rfl
  | false =>
   exfalso
   have hm : i ∈ Region.ready .any ops l := by
    refine mem_ready.2 ⟨?_, ops[i], by simp [hi], fun e he hb => ?_⟩
    ·unfold lst at hc
     simp only [Array.getD_eq_getD_getElem?] at hc ⊢
     have : l[i]? = some l[i] := by simp [hl, hi]
     rw [this] at hc ⊢
     exact hc
    ·have hget : rows[i]? = some (rowOf P ops[i]) := by rw [← hr]; simp [hi]
     have := (fwd_get hf hget).2 e.on (by
      simp only [rowOf]
      exact List.mem_map.2 ⟨e, List.mem_filter.2 ⟨by simpa using he, hb⟩, rfl⟩)
     have hlt : e.on < i := by omega
     exact ih e.on hlt (by omega)
   rw [h] at hm; cases hm
theorem wp_inv {rows : List (IOp × Option Nat × List Nat × Bool)} (hr : ops.toList.map (rowOf P) = rows) (hf : fwd 0 rows = true) (Inv : (Nat → Bool) → St → Prop)
  (hstep : ∀ l s i r, rows[i]? = some r → Inv l s → l i = false → (∀ j ∈ r.2.2.1, l j = true) → vcT P r.1 r.2.1 s fun s' => VS s' (Inv (upd l i)))
  (hend : ∀ l s, (∀ i, i < rows.length → l i = true) → Inv l s → K .normal s) :
  ∀ (n : Nat) (l : Array Bool) (s : St) (ρ : Nm) (a : Act) (w : World), l.size = ops.size → n = l.toList.count false → Inv (lst l) s → Sat C ρ s a w → wpAny P .any ops (Qof C K) n l a w := by
 have hlen : rows.length = ops.size := by rw [← hr]; simp
 intro n
 induction n with
 | zero =>
  intro l s ρ a w hl hn hI hs
  have he : Region.ready .any ops l = [] := List.eq_nil_iff_forall_not_mem.2 fun i hi => by
   have h1 := (mem_ready.1 hi).1
   have : false ∈ l.toList := by
    simp only [Array.getD_eq_getD_getElem?] at h1
    cases hx : l[i]? with
    | none => rw [hx] at h1; cases h1
    | some b =>
     rw [hx] at h1
     have h1 : b = false := h1
     subst h1
     exact Array.mem_toList_iff.2 (Array.mem_of_getElem? hx)
   have := List.count_pos_iff.2 this
   omega
  exact ⟨he, trivial, s, ρ, hend _ s (fun i hi => ready_all hr hf hl he i (by omega)) hI, hs⟩
 | succ n ih =>
  intro l s ρ a w hl hn hI hs
  refine ⟨fun he => ⟨trivial, s, ρ, hend _ s (fun i hi => ready_all hr hf hl he i (by omega)) hI, hs⟩, fun i hi => ?_⟩
  obtain ⟨hun, o, ho, hall⟩ := mem_ready.1 hi
  have hio : i < ops.size := (Array.getElem?_eq_some_iff.1 ho).1
  have hil : i < l.size := by omega
  have hget : rows[i]? = some (rowOf P o) := by rw [← hr]; simp [ho]
  have hg : o.guard = none := by
   have := (fwd_get hf hget).1
   simpa [rowOf] using this
  have hli : lst l i = false := by
   unfold lst
   simp only [Array.getD_eq_getD_getElem?] at hun ⊢
   have : l[i]? = some l[i] := by simp [hil]
   rw [this] at hun ⊢
   exact hun
  have hv := hstep (lst l) s i _ hget hI hli (fun j hj => by
   simp only [rowOf] at hj
   obtain ⟨e, he, rfl⟩ := List.mem_map.1 hj
   obtain ⟨h1, h2⟩ := List.mem_filter.1 he
   exact hall e (by simpa using h1) h2)
  have hv := vcT_opT (o := o) hv
  unfold wpOp
  rw [ho]
  simp only
  rw [if_pos (by simp [Region.wanted, hg])]
  refine .inl (Oper.wp_mono ?_ (hv C ρ a w _ hs))
  rintro a' w' ⟨s', ρ', h1, h2, _⟩
  obtain ⟨s'', ρ'', h3, h4⟩ := h1 C ρ' a' w' h2
  refine ih _ s'' ρ'' a' w' (by simp [hl]) ?_ (by rw [lst_set hil]; exact h3) h4
  have hne : l.toList[i]? = some false := by
   unfold lst at hli
   simp only [Array.getD_eq_getD_getElem?] at hli
   have e : l[i]? = some l[i] := by simp [hil]
   rw [e] at hli
   have hli : l[i] = false := hli
   rw [Array.getElem?_toList, e, hli]
  have hlt : i < l.toList.length := by simpa using hil
  have hp : 0 < l.toList.count false := List.count_pos_iff.2 (List.mem_of_getElem? hne)
  rw [Array.toList_setIfInBounds, List.count_set hlt]
  have : l.toList[i] = false := by rw [List.getElem?_eq_getElem hlt] at hne; injection hne
  rw [this, if_pos (show (false == false) = true from rfl), if_neg (show ¬ (true == false) = true by decide)]
  omega
theorem wp_regionI {id : Nat} {rows : List (IOp × Option Nat × List Nat × Bool)} (hm : P.follows .mixedOrders = true) (hr : ops.toList.map (rowOf P) = rows) (hf : fwd 0 rows = true) (Inv : (Nat → Bool) → St → Prop) {s : St} {ρ : Nm} {a : Act} {w : World} (hs : Sat C ρ s a w) (h0 : Inv (fun _ => false) s)
  (hstep : ∀ l s i r, rows[i]? = some r → Inv l s → l i = false → (∀ j ∈ r.2.2.1, l j = true) → vcT P r.1 r.2.1 s fun s' => VS s' (Inv (upd l i)))
  (hend : ∀ l s, (∀ i, i < rows.length → l i = true) → Inv l s → K .normal s) : (Code.region id ops true).wp P (Qof C K) a w :=
 wp_region_any hm (wp_inv hr hf Inv hstep hend ops.size _ s ρ a w.drew (by simp) (by simp) (by rw [lst_none]; exact h0) ⟨hs.df, hs.fr, hs.nm, hs.mem.drew⟩)
end
def midC (P : Program) (pl : List FuncId) : Option Code → Option (IC × List (IOp × Option Nat × List Nat × Bool) × IC)
 | some (.seq x (.seq (.region _ ops true) y)) => match trC P pl x, trC P pl y with
  | some ix, some iy => if P.follows .mixedOrders && fwd 0 (ops.toList.map (rowOf P)) then some (ix, ops.toList.map (rowOf P), iy) else none
  | _, _ => none
 | _ => none
def endK (G : St → Prop) : Exit → St → Prop
 | .normal, s => G s
 | _, _ => False
theorem endK_normal {G : St → Prop} {s : St} : endK G .normal s = G s := rfl
theorem spec_mid {P : Program} {f : FuncId} {fn : Func} {ix iy : IC} {rows : List (IOp × Option Nat × List Nat × Bool)} {fr : List FR} {pl : List FuncId} {args : List Value} {m : Nat} {z : Zc} {A : Asrt} {R : Value → Zc → Asrt → Prop}
  (hf : P.funcs[f]? = some fn) (hc : midC P pl fn.body = some (ix, rows, iy)) (hr : fres P fn.results.toList = some fr) (hn : fn.ntmps = m) (Inv : (Nat → Bool) → St → Prop)
  (hv : vcI P ix ⟨args.map ofV ++ List.replicate (m - args.length) unS, [(1000, .own A)], z, 0⟩ (endK fun s => VS s (Inv fun _ => false)))
  (hstep : ∀ l s i r, rows[i]? = some r → Inv l s → l i = false → (∀ j ∈ r.2.2.1, l j = true) → vcT P r.1 r.2.1 s fun s' => VS s' (Inv (upd l i)))
  (hend : ∀ l s, (∀ i, i < rows.length → l i = true) → Inv l s → vsI P iy (postK fr R) s) : Spec P f args z A R := fun w F hw hA => by
 obtain ⟨x, id, ops, y, hb, hx, hy, hm, hfw, hrows⟩ : ∃ x id ops y, fn.body = some (.seq x (.seq (.region id ops true) y)) ∧ trC P pl x = some ix ∧ trC P pl y = some iy ∧ P.follows .mixedOrders = true ∧ fwd 0 rows = true ∧ ops.toList.map (rowOf P) = rows := by
  unfold midC at hc
  split at hc
  ·rename_i x id ops y hbody
   split at hc
   ·rename_i ix' iy' hx hy
    split at hc
    ·rename_i hcc
     simp only [Bool.and_eq_true] at hcc
     injection hc with hc
     injection hc with h1 h2
     injection h2 with h2 h3
     subst h1
     subst h3
     exact ⟨x, id, ops, y, hbody, hx, hy, hcc.1, by rw [← h2]; exact hcc.2, h2⟩
    ·cases hc
   ·cases hc
  ·cases hc
 refine calls_of_wp hf hb ?_
 have hs : Sat ⟨w, F, z⟩ [] ⟨args.map ofV ++ List.replicate (m - args.length) unS, [(1000, .own A)], z, 0⟩ { tmps := args.toArray ++ Array.replicate (fn.ntmps - args.toArray.size) undef, defers := [] } w := by
  refine ⟨rfl, ?_, rfl, F, ⟨F, fun _ => False, hA, fun _ h => h, fun _ _ h => h, fun b => by simp⟩, hw⟩
  simp only [Array.toList_append, Array.toList_replicate, hn, List.size_toArray]
  exact (DL.map_id (ofV_den []) args).append (DL.replicate (R := SV.den []) (x := unS) (y := undef) rfl _)
 refine wp_mono (Q := Qof ⟨w, F, z⟩ (postK fr R)) ?_ ?_
 ·refine wp_seq (wp_mono (vcI_sound x ix hx _ _ ⟨w, F, z⟩ [] _ w hv hs) ?_)
  rintro e a' w' ⟨hp, s', ρ', hk, hs'⟩
  cases e with
  | normal =>
   obtain ⟨s', ρ', hk, hs'⟩ := hk _ _ _ _ hs'
   refine wp_seq (wp_mono (wp_regionI (K := fun e s => match e with | .normal => vsI P iy (postK fr R) s | _ => False) hm hrows hfw Inv hs' hk hstep hend) ?_)
   rintro e a'' w'' ⟨hp, s'', ρ'', hk, hs''⟩
   cases e with
   | normal =>
    obtain ⟨s3, ρ3, g1, g2⟩ := hk _ _ _ _ hs''
    exact vcI_sound y iy hy s3 _ _ ρ3 _ _ g1 g2
   | exit id => exact hk.elim
   | goto l => exact hk.elim
   | ret => exact hk.elim
   | panic c => exact hp.elim
   | outgrown => exact hp.elim
  | exit id => exact hk.elim
  | goto l => exact hk.elim
  | ret => exact hk.elim
  | panic c => exact hp.elim
  | outgrown => exact hp.elim
 rintro e a' w' ⟨hp, s', ρ', hk, hs'⟩
 have fin : FinV fr s' R → a'.defers = [] ∧ ∃ v, (results fn a'.tmps).run P w' = .ok v w' ∧ ∃ v_1 z' A' F', Ending.returned v = .returned v_1 ∧ R v_1 z' A' ∧ A'.holds w' F' ∧ WOk ⟨w, F, z⟩ z' F' w' := fun hk => by
  obtain ⟨vs, z', A', F', g1, g2, g3, g4⟩ := hk _ _ _ _ hs'
  exact ⟨hs'.df, _, results_run hr g1, _, z', A', F', rfl, g2, g3, g4⟩
 cases e with
 | normal => exact fin hk
 | ret => exact fin hk
 | exit id => exact hk.elim
 | goto l => exact hk.elim
 | panic c => exact hp.elim
 | outgrown => exact hp.elim
set_option maxRecDepth 100000
set_option maxHeartbeats 4000000
def md60 : IC × List (IOp × Option Nat × List Nat × Bool) × IC := ((IC.reg [] (IReg.op Kd.t (IOp.alc 24 [(Value.int IntKind.i64 0), (Value.int IntKind.i64 0), (Value.int IntKind.i64 0), (Value.int IntKind.i64 0), (Value.int IntKind.i64 0)]) (some 4) none IReg.done)), ([((IOp.mv (Operand.tmp 0)), ((some 6), ([], true))), ((IOp.call 35 [(Operand.tmp 6), (Operand.const (Value.int IntKind.i64 2))]), ((some 7), ([0], true))), ((IOp.bin BinOp.add (Operand.const (Value.int IntKind.i64 1)) (Operand.tmp 7)), ((some 8), ([1], true))), ((IOp.mv (Operand.tmp 0)), ((some 9), ([], true))), ((IOp.call 35 [(Operand.tmp 9), (Operand.const (Value.int IntKind.i64 4))]), ((some 10), ([3, 1], true))), ((IOp.bin BinOp.add (Operand.const (Value.int IntKind.i64 1)) (Operand.tmp 10)), ((some 11), ([4], true))), ((IOp.mv (Operand.tmp 0)), ((some 12), ([], true))), ((IOp.call 35 [(Operand.tmp 12), (Operand.const (Value.int IntKind.i64 8))]), ((some 13), ([6, 4], true))), ((IOp.bin BinOp.add (Operand.const (Value.int IntKind.i64 1)) (Operand.tmp 13)), ((some 14), ([7], true))), ((IOp.bsl 3 1 3 [(Value.int IntKind.i64 0)] [(0, (Operand.tmp 14)), (1, (Operand.const (Value.int IntKind.i64 3))), (2, (Operand.const (Value.int IntKind.i64 8)))]), ((some 15), ([8], true))), ((IOp.mv (Operand.tmp 0)), ((some 16), ([], true))), ((IOp.call 35 [(Operand.tmp 16), (Operand.const (Value.int IntKind.i64 3))]), ((some 17), ([10, 7], true))), ((IOp.iad (Operand.tmp 15) (Operand.tmp 17) 1), ((some 18), ([9, 11], true))), ((IOp.ld (Operand.tmp 18) 1 false), ((some 19), ([12], true))), ((IOp.mv (Operand.tmp 0)), ((some 20), ([], true))), ((IOp.call 35 [(Operand.tmp 20), (Operand.const (Value.int IntKind.i64 24))]), ((some 21), ([14, 11], true))), ((IOp.bin BinOp.add (Operand.const (Value.int IntKind.i64 1)) (Operand.tmp 21)), ((some 22), ([15], true))), ((IOp.bsl 3 1 2 [(Value.int IntKind.i64 0)] [(0, (Operand.const (Value.int IntKind.i64 24))), (1, (Operand.tmp 22))]), ((some 23), ([16], true))), ((IOp.mv (Operand.tmp 0)), ((some 24), ([], true))), ((IOp.call 35 [(Operand.tmp 24), (Operand.const (Value.int IntKind.i64 2))]), ((some 25), ([18, 15], true))), ((IOp.iad (Operand.tmp 23) (Operand.tmp 25) 1), ((some 26), ([17, 19], true))), ((IOp.ld (Operand.tmp 26) 1 false), ((some 27), ([20], true))), ((IOp.mv (Operand.tmp 0)), ((some 28), ([], true))), ((IOp.call 35 [(Operand.tmp 28), (Operand.const (Value.int IntKind.i64 5))]), ((some 29), ([22, 19], true))), ((IOp.bin BinOp.add (Operand.const (Value.int IntKind.i64 1)) (Operand.tmp 29)), ((some 30), ([23], true))), ((IOp.bld [(Value.int IntKind.i64 0), (Value.int IntKind.i64 0), (Value.int IntKind.i64 0), (Value.int IntKind.i64 0), (Value.int IntKind.i64 0)] [(0, (1, (Operand.tmp 8))), (1, (1, (Operand.tmp 11))), (2, (1, (Operand.tmp 19))), (3, (1, (Operand.tmp 27))), (4, (1, (Operand.tmp 30)))]), ((some 31), ([2, 5, 13, 21, 24], true))), ((IOp.alc 24 [(Value.int IntKind.i64 0), (Value.int IntKind.i64 0), (Value.int IntKind.i64 0), (Value.int IntKind.i64 0), (Value.int IntKind.i64 0)]), ((some 5), ([], true))), ((IOp.sto (Operand.tmp 5) (Operand.tmp 31) 5), (none, ([26, 25, 23, 0, 1, 2, 3, 4, 5, 6, 7, 8, 9, 10, 11, 12, 13, 14, 15, 16, 17, 18, 19, 20, 21, 22, 23, 24, 25, 26], true)))], (IC.seq (IC.seq (IC.reg [] (IReg.op Kd.t (IOp.mv (Operand.tmp 0)) (some 32) none (IReg.op Kd.t (IOp.mv (Operand.tmp 1)) (some 33) none (IReg.op Kd.t (IOp.call 78 [(Operand.tmp 32), (Operand.tmp 33)]) (some 34) none IReg.done)))) (IC.cond (Operand.tmp 34) (IC.seq (IC.reg [] (IReg.op Kd.t (IOp.mv (Operand.tmp 0)) (some 35) none (IReg.op Kd.t (IOp.call 35 [(Operand.tmp 35), (Operand.const (Value.int IntKind.i64 5))]) (some 36) none IReg.done))) (IC.block 0 (IC.seq (IC.reg [] (IReg.op Kd.t (IOp.bin BinOp.eql (Operand.tmp 36) (Operand.const (Value.int IntKind.i64 0))) (some 44) none (IReg.op Kd.t (IOp.mv (Operand.tmp 44)) (some 43) none IReg.done))) (IC.cond (Operand.tmp 43) (IC.reg [] (IReg.op Kd.t (IOp.bsl 3 1 2 [(Value.int IntKind.i64 0)] [(0, (Operand.const (Value.int IntKind.i64 0))), (1, (Operand.const (Value.int IntKind.i64 3)))]) (some 45) none (IReg.op Kd.t (IOp.mv (Operand.tmp 0)) (some 46) none (IReg.op Kd.t (IOp.call 35 [(Operand.tmp 46), (Operand.const (Value.int IntKind.i64 2))]) (some 47) none (IReg.op Kd.t (IOp.iad (Operand.tmp 45) (Operand.tmp 47) 1) (some 48) none (IReg.op Kd.t (IOp.ld (Operand.tmp 48) 1 false) (some 49) none (IReg.op Kd.t (IOp.fad (Operand.tmp 5) 0) (some 50) none (IReg.op Kd.t (IOp.sto (Operand.tmp 50) (Operand.tmp 49) 1) none none IReg.done)))))))) (IC.seq (IC.reg [] (IReg.op Kd.t (IOp.bin BinOp.eql (Operand.tmp 36) (Operand.const (Value.int IntKind.i64 1))) (some 52) none (IReg.op Kd.t (IOp.mv (Operand.tmp 52)) (some 51) none IReg.done))) (IC.cond (Operand.tmp 51) (IC.reg [] (IReg.op Kd.t (IOp.bsl 3 1 2 [(Value.int IntKind.i64 0)] [(0, (Operand.const (Value.int IntKind.i64 0))), (1, (Operand.const (Value.int IntKind.i64 5)))]) (some 53) none (IReg.op Kd.t (IOp.mv (Operand.tmp 0)) (some 54) none (IReg.op Kd.t (IOp.call 35 [(Operand.tmp 54), (Operand.const (Value.int IntKind.i64 2))]) (some 55) none (IReg.op Kd.t (IOp.iad (Operand.tmp 53) (Operand.tmp 55) 1) (some 56) none (IReg.op Kd.t (IOp.ld (Operand.tmp 56) 1 false) (some 57) none (IReg.op Kd.t (IOp.fad (Operand.tmp 5) 1) (some 58) none (IReg.op Kd.t (IOp.sto (Operand.tmp 58) (Operand.tmp 57) 1) none none IReg.done)))))))) (IC.seq (IC.reg [] (IReg.op Kd.t (IOp.bin BinOp.eql (Operand.tmp 36) (Operand.const (Value.int IntKind.i64 2))) (some 60) none (IReg.op Kd.t (IOp.mv (Operand.tmp 60)) (some 59) none IReg.done))) (IC.cond (Operand.tmp 59) (IC.reg [] (IReg.op Kd.t (IOp.bsl 3 1 2 [(Value.int IntKind.i64 0)] [(0, (Operand.const (Value.int IntKind.i64 0))), (1, (Operand.const (Value.int IntKind.i64 9)))]) (some 61) none (IReg.op Kd.t (IOp.mv (Operand.tmp 0)) (some 62) none (IReg.op Kd.t (IOp.call 35 [(Operand.tmp 62), (Operand.const (Value.int IntKind.i64 2))]) (some 63) none (IReg.op Kd.t (IOp.iad (Operand.tmp 61) (Operand.tmp 63) 1) (some 64) none (IReg.op Kd.t (IOp.ld (Operand.tmp 64) 1 false) (some 65) none (IReg.op Kd.t (IOp.fad (Operand.tmp 5) 2) (some 66) none (IReg.op Kd.t (IOp.sto (Operand.tmp 66) (Operand.tmp 65) 1) none none IReg.done)))))))) (IC.seq (IC.reg [] (IReg.op Kd.t (IOp.bin BinOp.eql (Operand.tmp 36) (Operand.const (Value.int IntKind.i64 3))) (some 68) none (IReg.op Kd.t (IOp.mv (Operand.tmp 68)) (some 67) none IReg.done))) (IC.cond (Operand.tmp 67) (IC.reg [] (IReg.op Kd.t (IOp.bsl 3 1 2 [(Value.int IntKind.i64 0)] [(0, (Operand.const (Value.int IntKind.i64 0))), (1, (Operand.const (Value.int IntKind.i64 25)))]) (some 69) none (IReg.op Kd.t (IOp.mv (Operand.tmp 0)) (some 70) none (IReg.op Kd.t (IOp.call 35 [(Operand.tmp 70), (Operand.const (Value.int IntKind.i64 2))]) (some 71) none (IReg.op Kd.t (IOp.iad (Operand.tmp 69) (Operand.tmp 71) 1) (some 72) none (IReg.op Kd.t (IOp.ld (Operand.tmp 72) 1 false) (some 73) none (IReg.op Kd.t (IOp.fad (Operand.tmp 5) 3) (some 74) none (IReg.op Kd.t (IOp.sto (Operand.tmp 74) (Operand.tmp 73) 1) none none IReg.done)))))))) (IC.reg [] (IReg.op Kd.t (IOp.bsl 3 1 2 [(Value.int IntKind.i64 0)] [(0, (Operand.const (Value.int IntKind.i64 0))), (1, (Operand.const (Value.int IntKind.i64 6)))]) (some 37) none (IReg.op Kd.t (IOp.mv (Operand.tmp 0)) (some 38) none (IReg.op Kd.t (IOp.call 35 [(Operand.tmp 38), (Operand.const (Value.int IntKind.i64 2))]) (some 39) none (IReg.op Kd.t (IOp.iad (Operand.tmp 37) (Operand.tmp 39) 1) (some 40) none (IReg.op Kd.t (IOp.ld (Operand.tmp 40) 1 false) (some 41) none (IReg.op Kd.t (IOp.fad (Operand.tmp 5) 4) (some 42) none (IReg.op Kd.t (IOp.sto (Operand.tmp 42) (Operand.tmp 41) 1) none none IReg.done)))))))))))))))))) IC.skip)) (IC.seq (IC.reg [] (IReg.op Kd.t (IOp.ld (Operand.tmp 5) 5 true) (some 75) none (IReg.op Kd.t (IOp.sto (Operand.tmp 4) (Operand.tmp 75) 5) none none IReg.done))) IC.ret))))
theorem md60_ok : midC Tryz.prog [] Tryz.f60.body = some md60 := by kernel_rfl
def fr60 : List FR := [(FR.c 4 5 true)]
theorem fr60_ok : fres Tryz.prog Tryz.f60.results.toList = some fr60 := by kernel_rfl
set_option maxHeartbeats 1000000
theorem gt_st_eq (v : SV) : ∀ {l : List SV} {n : Nat}, n < l.length → gt (st l n v) n = v
 | _ :: _, 0, _ => rfl
 | _ :: l, n + 1, h => gt_st_eq v (l := l) (n := n) (Nat.lt_of_succ_lt_succ h)
 | [], _, h => absurd h (Nat.not_lt_zero _)
theorem gt_st_ne (v : SV) : ∀ {l : List SV} {n m : Nat}, n ≠ m → gt (st l n v) m = gt l m
 | [], _, _, _ => rfl
 | _ :: _, 0, 0, h => absurd rfl h
 | _ :: _, 0, _ + 1, _ => rfl
 | _ :: _, _ + 1, 0, _ => rfl
 | _ :: l, n + 1, m + 1, h => gt_st_ne v (l := l) (fun e => h (by rw [e]))
theorem st_len (v : SV) (l : List SV) (n : Nat) : (st l n v).length = l.length := by rw [st_eq, List.length_set]
theorem gt_map {f : SV → SV} (hf : f unS = unS) : ∀ (l : List SV) (n : Nat), gt (l.map f) n = f (gt l n)
 | [], _ => hf.symm
 | _ :: _, 0 => rfl
 | _ :: l, n + 1 => gt_map hf l n
def isI (lo hi : Int) (sv : SV) : Prop := ∃ x : Int, sv = .c (.v (.int .i64 x)) ∧ lo ≤ x ∧ x ≤ hi
def isF (z : Zc) (hi : Int) (sv : SV) : Prop := ∃ A o x, sv = .c (.f A o) ∧ RdAt z A o [.int .i64 x] ∧ 1 ≤ x ∧ x ≤ hi
def Fct (pv : Value) (z : Zc) (i : Nat) (sv : SV) : Prop :=
 ((i = 0 ∨ i = 3 ∨ i = 6 ∨ i = 10 ∨ i = 14 ∨ i = 18 ∨ i = 22) → sv = .c (.v pv)) ∧
 (i = 1 → isI 0 1 sv) ∧ (i = 2 → isI 1 2 sv) ∧ (i = 4 → isI 0 3 sv) ∧ (i = 5 → isI 1 4 sv) ∧ (i = 7 → isI 0 7 sv) ∧ (i = 8 → isI 1 8 sv) ∧ (i = 11 → isI 0 2 sv) ∧ (i = 13 → isI 1 8 sv) ∧ (i = 15 → isI 0 23 sv) ∧ (i = 16 → isI 1 24 sv) ∧ (i = 19 → isI 0 1 sv) ∧ (i = 21 → isI 1 24 sv) ∧ (i = 23 → isI 0 4 sv) ∧ (i = 24 → isI 1 5 sv) ∧
 (i = 9 → ∃ A x, sv = .c (.v (.slice A 3 3)) ∧ IsAt A ∧ RdAt z A 0 [.int .i64 x, .int .i64 3, .int .i64 8] ∧ 1 ≤ x ∧ x ≤ 8) ∧
 (i = 17 → ∃ A x, sv = .c (.v (.slice A 2 2)) ∧ IsAt A ∧ RdAt z A 0 [.int .i64 24, .int .i64 x] ∧ 1 ≤ x ∧ x ≤ 24) ∧
 (i = 12 → isF z 8 sv) ∧ (i = 20 → isF z 24 sv) ∧
 (i = 25 → ∃ c : Cfg, sv = .a [.v (.int .i64 c.mode), .v (.int .i64 c.win), .v (.int .i64 c.mps), .v (.int .i64 c.mtu), .v (.int .i64 c.tri)] ∧ CfgI c)
theorem isI.sub {lo hi : Int} {sv : SV} {k b : Nat} (h : isI lo hi sv) : isI lo hi (subV k b sv) := by
 obtain ⟨x, rfl, h⟩ := h
 exact ⟨x, rfl, h⟩
theorem isF.mono {z z' : Zc} {hi : Int} {sv : SV} {k b : Nat} (hz : z ≤ z') (h : isF z hi sv) : isF z' hi (subV k b sv) := by
 obtain ⟨A, o, x, rfl, h1, h2⟩ := h
 exact ⟨A, o, x, rfl, h1.mono hz, h2⟩
theorem Fct.mono {pv : Value} {z z' : Zc} {i : Nat} {sv : SV} {k b : Nat} (hz : z ≤ z') (h : Fct pv z i sv) : Fct pv z' i (subV k b sv) := by
 obtain ⟨h0, h1, h2, h3, h4, h5, h6, h7, h8, h9, ha, hb, hc, hd, he, hf, hg, hh, hi, hj⟩ := h
 refine ⟨fun e => by rw [h0 e]; rfl, fun e => (h1 e).sub, fun e => (h2 e).sub, fun e => (h3 e).sub, fun e => (h4 e).sub, fun e => (h5 e).sub, fun e => (h6 e).sub, fun e => (h7 e).sub, fun e => (h8 e).sub, fun e => (h9 e).sub, fun e => (ha e).sub, fun e => (hb e).sub, fun e => (hc e).sub, fun e => (hd e).sub, fun e => (he e).sub, fun e => ?_, fun e => ?_, fun e => (hh e).mono hz, fun e => (hi e).mono hz, fun e => ?_⟩
 ·obtain ⟨A, x, rfl, k1, k2, k3⟩ := hf e
  exact ⟨A, x, rfl, k1, k2.mono hz, k3⟩
 ·obtain ⟨A, x, rfl, k1, k2, k3⟩ := hg e
  exact ⟨A, x, rfl, k1, k2.mono hz, k3⟩
 ·obtain ⟨c, rfl, k1⟩ := hj e
  exact ⟨c, rfl, k1⟩
def b1 (b : Bool) : Nat := if b then 1 else 0
def cnt (l : Nat → Bool) : Nat := b1 (l 1) + b1 (l 4) + b1 (l 7) + b1 (l 11) + b1 (l 15) + b1 (l 19) + b1 (l 23)
def nms (l : Nat → Bool) : Nat := 1 + b1 (l 9) + b1 (l 17) + b1 (l 26)
theorem b1_le (b : Bool) : b1 b ≤ 1 := by cases b <;> decide
theorem nms_le (l : Nat → Bool) : nms l ≤ 4 := by unfold nms; have := b1_le (l 9); have := b1_le (l 17); have := b1_le (l 26); omega
theorem cnt_le (l : Nat → Bool) : cnt l ≤ 7 := by unfold cnt; have := b1_le (l 1); have := b1_le (l 4); have := b1_le (l 7); have := b1_le (l 11); have := b1_le (l 15); have := b1_le (l 19); have := b1_le (l 23); omega
abbrev z5 : List SC := [.v (.int .i64 0), .v (.int .i64 0), .v (.int .i64 0), .v (.int .i64 0), .v (.int .i64 0)]
abbrev c5 (c : Cfg) : List SC := [.v (.int .i64 c.mode), .v (.int .i64 c.win), .v (.int .i64 c.mps), .v (.int .i64 c.mtu), .v (.int .i64 c.tri)]
section
variable {z0 : Zc} {b : Nat} {A : Option Addr} {nn cc : Nat} {p : Int}
structure InvC (z0 : Zc) (b : Nat) (A : Option Addr) (nn cc : Nat) (p : Int) (l : Nat → Bool) (s : St) : Prop where
 z : z0 ≤ s.z
 n : s.n = nms l
 len : s.t.length = 76
 g0 : gt s.t 0 = .c (.v (.pointer (some ⟨b, 0, none⟩)))
 g1 : gt s.t 1 = .c (.v (.int .i64 0))
 g4 : gt s.t 4 = .c (.p 0 0)
 fct : ∀ i, i < 26 → l i = true → Fct (.pointer (some ⟨b, 0, none⟩)) s.z i (gt s.t (i + 6))
 L : (l 26 = false ∧ l 27 = false ∧ s.L = [(1000, .own (starL [rdA b A nn cc (p + cnt l)])), (0, .cells 24 z5)]) ∨
  (l 26 = true ∧ l 27 = false ∧ ∃ k, 1 ≤ k ∧ k < s.n ∧ gt s.t 5 = .c (.p k 0) ∧ s.L = [(1000, .own (starL [rdA b A nn cc (p + cnt l)])), (k, .cells 24 z5), (0, .cells 24 z5)]) ∨
  ((∀ j, j < 28 → l j = true) ∧ ∃ k c, 1 ≤ k ∧ k < s.n ∧ gt s.t 5 = .c (.p k 0) ∧ CfgI c ∧ s.L = [(1000, .own (starL [rdA b A nn cc (p + cnt l)])), (k, .cells 24 (c5 c)), (0, .cells 24 z5)])
theorem upd_eq (l : Nat → Bool) (i : Nat) : upd l i i = true := by simp [upd]
theorem upd_ne (l : Nat → Bool) {i j : Nat} (h : j ≠ i) : upd l i j = l j := by simp [upd, h]
theorem InvC.fct' {l : Nat → Bool} {s : St} (h : InvC z0 b A nn cc p l s) {i : Nat} {sv : SV} (hi : i < 26) (hf : Fct (.pointer (some ⟨b, 0, none⟩)) s.z i sv) : ∀ j, j < 26 → upd l i j = true → Fct (.pointer (some ⟨b, 0, none⟩)) s.z j (gt (st s.t (i + 6) sv) (j + 6)) := fun j hj hl => by
 by_cases e : j = i
 ·subst e; rw [gt_st_eq _ (by rw [h.len]; omega)]; exact hf
 ·rw [gt_st_ne _ (by omega)]; rw [upd_ne l e] at hl; exact h.fct j hj hl
theorem InvC.pure {l : Nat → Bool} {s : St} (h : InvC z0 b A nn cc p l s) (i : Nat) {sv : SV} (hi : i < 26) (hl : l i = false) (hc : cnt (upd l i) = cnt l) (hn : nms (upd l i) = nms l) (hf : Fct (.pointer (some ⟨b, 0, none⟩)) s.z i sv) : InvC z0 b A nn cc p (upd l i) ⟨st s.t (i + 6) sv, s.L, s.z, s.n⟩ := by
 refine ⟨h.z, by rw [hn]; exact h.n, by rw [st_len]; exact h.len, ?_, ?_, ?_, h.fct' hi hf, ?_⟩
 ·rw [gt_st_ne _ (by omega)]; exact h.g0
 ·rw [gt_st_ne _ (by omega)]; exact h.g1
 ·rw [gt_st_ne _ (by omega)]; exact h.g4
 ·rw [hc, upd_ne l (by omega), upd_ne l (by omega)]
  rcases h.L with ⟨h1, h2, h3⟩ | ⟨h1, h2, k, h3, h4, h5, h6⟩ | ⟨h1, _⟩
  ·exact .inl ⟨h1, h2, h3⟩
  ·exact .inr (.inl ⟨h1, h2, k, h3, h4, by rw [gt_st_ne _ (by omega)]; exact h5, h6⟩)
  ·rw [h1 i (by omega)] at hl; cases hl
theorem InvC.look {l : Nat → Bool} {s : St} (h : InvC z0 b A nn cc p l s) : look 1000 s.L = some (.own (starL [rdA b A nn cc (p + cnt l)])) ∧ look 1000 (del 1000 s.L) = none := by
 have hn := h.n
 have := nms_le l
 rcases h.L with ⟨h1, h2, h3⟩ | ⟨h1, h2, k, h3, h4, h5, h6⟩ | ⟨h1, k, c, h3, h4, h5, h6, h7⟩
 ·rw [h3]; exact ⟨rfl, rfl⟩
 ·rw [h6]; refine ⟨rfl, ?_⟩
  simp [del, Go.Proofs.YtllafcmkppmdgaaGreat.look, show k ≠ 1000 by omega]
 ·rw [h7]; refine ⟨rfl, ?_⟩
  simp [del, Go.Proofs.YtllafcmkppmdgaaGreat.look, show k ≠ 1000 by omega]
theorem InvC.call {l : Nat → Bool} {s : St} (h : InvC z0 b A nn cc p l s) (i : Nat) {sv : SV} (hi : i < 26) (hl : l i = false) (hc : cnt (upd l i) = cnt l + 1) (hn : nms (upd l i) = nms l) (hf : Fct (.pointer (some ⟨b, 0, none⟩)) s.z i sv) : InvC z0 b A nn cc p (upd l i) ⟨st s.t (i + 6) sv, (1000, .own (starL [rdA b A nn cc (p + cnt l + 1)])) :: del 1000 s.L, s.z, s.n⟩ := by
 refine ⟨h.z, by rw [hn]; exact h.n, by rw [st_len]; exact h.len, ?_, ?_, ?_, h.fct' hi hf, ?_⟩
 ·rw [gt_st_ne _ (by omega)]; exact h.g0
 ·rw [gt_st_ne _ (by omega)]; exact h.g1
 ·rw [gt_st_ne _ (by omega)]; exact h.g4
 ·have e : p + ((cnt l + 1 : Nat) : Int) = p + cnt l + 1 := by omega
  rw [hc, upd_ne l (by omega), upd_ne l (by omega), e]
  rcases h.L with ⟨h1, h2, h3⟩ | ⟨h1, h2, k, h3, h4, h5, h6⟩ | ⟨h1, _⟩
  ·exact .inl ⟨h1, h2, by dsimp only; rw [h3]; rfl⟩
  ·exact .inr (.inl ⟨h1, h2, k, h3, h4, by rw [gt_st_ne _ (by omega)]; exact h5, by dsimp only; rw [h6]; rfl⟩)
  ·rw [h1 i (by omega)] at hl; cases hl
theorem del_self {k : Nat} {e : Ent} {L : Ents} : del k ((k, e) :: L) = L := by simp [del]
theorem InvC.bsl {l : Nat → Bool} {s : St} (h : InvC z0 b A nn cc p l s) (i : Nat) {sv : SV} {x : Ent} {b' : Nat} {z' : Zc} (hi : i < 26) (hl : l i = false) (hc : cnt (upd l i) = cnt l) (hn : nms (upd l i) = nms l + 1) (hz : s.z ≤ z') (hf : Fct (.pointer (some ⟨b, 0, none⟩)) z' i (subV s.n b' sv)) : InvC z0 b A nn cc p (upd l i) (frz ⟨st s.t (i + 6) sv, (s.n, x) :: s.L, s.z, s.n + 1⟩ s.n b' z') := by
 have hm := gt_map (f := subV s.n b') rfl
 have h1n : 1 ≤ s.n := by rw [h.n]; unfold nms; omega
 unfold frz
 dsimp only
 rw [del_self]
 refine ⟨Zc.trans' h.z hz, by dsimp only; rw [hn, h.n], by rw [List.length_map, st_len]; exact h.len, ?_, ?_, ?_, fun j hj hlj => ?_, ?_⟩
 ·rw [hm, gt_st_ne _ (by omega), h.g0]; rfl
 ·rw [hm, gt_st_ne _ (by omega), h.g1]; rfl
 ·rw [hm, gt_st_ne _ (by omega), h.g4]; simp [subV, subC]; omega
 ·rw [hm]
  by_cases e : j = i
  ·subst e; rw [gt_st_eq _ (by rw [h.len]; omega)]; exact hf
  ·rw [gt_st_ne _ (by omega)]; rw [upd_ne l e] at hlj; exact (h.fct j hj hlj).mono hz
 ·rw [hc, upd_ne l (by omega), upd_ne l (by omega)]
  rcases h.L with ⟨h1, h2, h3⟩ | ⟨h1, h2, k, h3, h4, h5, h6⟩ | ⟨h1, _⟩
  ·exact .inl ⟨h1, h2, by dsimp only; rw [h3]; rfl⟩
  ·refine .inr (.inl ⟨h1, h2, k, h3, by dsimp only; omega, ?_, by dsimp only; rw [h6]; rfl⟩)
   rw [hm, gt_st_ne _ (by omega), h5]; simp [subV, subC]; omega
  ·rw [h1 i (by omega)] at hl; cases hl
end
section
variable {z0 : Zc} {b : Nat} {A : Option Addr} {nn cc : Nat} {p : Int} {code : List Int}
abbrev StpC (z0 : Zc) (b : Nat) (A : Option Addr) (nn cc : Nat) (p : Int) (l : Nat → Bool) (i : Nat) (s : St) : Prop := VS s (InvC z0 b A nn cc p (upd l i))
theorem vcm_mv' {x : Operand} {d : Option Nat} {s : St} {K : St → Prop} : vcT Tryz.prog (.mv x) d s K = K ⟨stO s.t d (ev s.t x), s.L, s.z, s.n⟩ := rfl
theorem cfg_0 {l : Nat → Bool} {s : St} (h : InvC z0 b A nn cc p l s) (hl : l 0 = false) : vcT Tryz.prog (.mv (.tmp 0)) (some 6) s (StpC z0 b A nn cc p l 0) := by
 rw [vcm_mv']
 simp only [ev, stO, h.g0]
 exact VS.id (h.pure 0 (by omega) hl (by simp [cnt, upd]) (by simp [nms, upd]) (by simp [Fct]))
theorem cfg_3 {l : Nat → Bool} {s : St} (h : InvC z0 b A nn cc p l s) (hl : l 3 = false) : vcT Tryz.prog (.mv (.tmp 0)) (some 9) s (StpC z0 b A nn cc p l 3) := by
 rw [vcm_mv']
 simp only [ev, stO, h.g0]
 exact VS.id (h.pure 3 (by omega) hl (by simp [cnt, upd]) (by simp [nms, upd]) (by simp [Fct]))
theorem cfg_6 {l : Nat → Bool} {s : St} (h : InvC z0 b A nn cc p l s) (hl : l 6 = false) : vcT Tryz.prog (.mv (.tmp 0)) (some 12) s (StpC z0 b A nn cc p l 6) := by
 rw [vcm_mv']
 simp only [ev, stO, h.g0]
 exact VS.id (h.pure 6 (by omega) hl (by simp [cnt, upd]) (by simp [nms, upd]) (by simp [Fct]))
theorem cfg_10 {l : Nat → Bool} {s : St} (h : InvC z0 b A nn cc p l s) (hl : l 10 = false) : vcT Tryz.prog (.mv (.tmp 0)) (some 16) s (StpC z0 b A nn cc p l 10) := by
 rw [vcm_mv']
 simp only [ev, stO, h.g0]
 exact VS.id (h.pure 10 (by omega) hl (by simp [cnt, upd]) (by simp [nms, upd]) (by simp [Fct]))
theorem cfg_14 {l : Nat → Bool} {s : St} (h : InvC z0 b A nn cc p l s) (hl : l 14 = false) : vcT Tryz.prog (.mv (.tmp 0)) (some 20) s (StpC z0 b A nn cc p l 14) := by
 rw [vcm_mv']
 simp only [ev, stO, h.g0]
 exact VS.id (h.pure 14 (by omega) hl (by simp [cnt, upd]) (by simp [nms, upd]) (by simp [Fct]))
theorem cfg_18 {l : Nat → Bool} {s : St} (h : InvC z0 b A nn cc p l s) (hl : l 18 = false) : vcT Tryz.prog (.mv (.tmp 0)) (some 24) s (StpC z0 b A nn cc p l 18) := by
 rw [vcm_mv']
 simp only [ev, stO, h.g0]
 exact VS.id (h.pure 18 (by omega) hl (by simp [cnt, upd]) (by simp [nms, upd]) (by simp [Fct]))
theorem cfg_22 {l : Nat → Bool} {s : St} (h : InvC z0 b A nn cc p l s) (hl : l 22 = false) : vcT Tryz.prog (.mv (.tmp 0)) (some 28) s (StpC z0 b A nn cc p l 22) := by
 rw [vcm_mv']
 simp only [ev, stO, h.g0]
 exact VS.id (h.pure 22 (by omega) hl (by simp [cnt, upd]) (by simp [nms, upd]) (by simp [Fct]))
theorem cfg_1 {l : Nat → Bool} {s : St} (h : InvC z0 b A code.length cc p l s) (hb : By z0 code (.slice A code.length cc)) (hp : 0 ≤ p ∧ p ≤ 800000) (hlen : code.length ≤ 2000) (hl : l 1 = false) (h0 : l 0 = true) : vcT Tryz.prog (.call 35 [.tmp 6, .const (.int .i64 2)]) (some 7) s (StpC z0 b A code.length cc p l 1) := by
 have hv : gt s.t 6 = .c (.v (.pointer (some ⟨b, 0, none⟩))) := (h.fct 0 (by omega) h0).1 (by simp)
 have := cnt_le l
 rw [vcT_call]
 refine callM.toT ?_
 refine callW 1000 (pick_s b A cc code (p + cnt l) 2 s.z (hb.mono h.z) (by omega) hlen (by omega)) (by simp only [argsV, ev, hv]; rfl) h.look.1 h.look.2 rfl ?_
 rintro v z' A' hz ⟨x, rfl, rfl, rfl, hx0, hx1, _⟩
 have hx1 := hx1 (by omega)
 exact VS.id (h.call 1 (sv := .c (.v (.int .i64 x))) (by omega) hl (by simp [cnt, upd, hl, b1]; try omega) (by simp [nms, upd]) (by simp [Fct, isI]; omega))
theorem cfg_4 {l : Nat → Bool} {s : St} (h : InvC z0 b A code.length cc p l s) (hb : By z0 code (.slice A code.length cc)) (hp : 0 ≤ p ∧ p ≤ 800000) (hlen : code.length ≤ 2000) (hl : l 4 = false) (h3 : l 3 = true) : vcT Tryz.prog (.call 35 [.tmp 9, .const (.int .i64 4)]) (some 10) s (StpC z0 b A code.length cc p l 4) := by
 have hv : gt s.t 9 = .c (.v (.pointer (some ⟨b, 0, none⟩))) := (h.fct 3 (by omega) h3).1 (by simp)
 have := cnt_le l
 rw [vcT_call]
 refine callM.toT ?_
 refine callW 1000 (pick_s b A cc code (p + cnt l) 4 s.z (hb.mono h.z) (by omega) hlen (by omega)) (by simp only [argsV, ev, hv]; rfl) h.look.1 h.look.2 rfl ?_
 rintro v z' A' hz ⟨x, rfl, rfl, rfl, hx0, hx1, _⟩
 have hx1 := hx1 (by omega)
 exact VS.id (h.call 4 (sv := .c (.v (.int .i64 x))) (by omega) hl (by simp [cnt, upd, hl, b1]; try omega) (by simp [nms, upd]) (by simp [Fct, isI]; omega))
theorem cfg_7 {l : Nat → Bool} {s : St} (h : InvC z0 b A code.length cc p l s) (hb : By z0 code (.slice A code.length cc)) (hp : 0 ≤ p ∧ p ≤ 800000) (hlen : code.length ≤ 2000) (hl : l 7 = false) (h6 : l 6 = true) : vcT Tryz.prog (.call 35 [.tmp 12, .const (.int .i64 8)]) (some 13) s (StpC z0 b A code.length cc p l 7) := by
 have hv : gt s.t 12 = .c (.v (.pointer (some ⟨b, 0, none⟩))) := (h.fct 6 (by omega) h6).1 (by simp)
 have := cnt_le l
 rw [vcT_call]
 refine callM.toT ?_
 refine callW 1000 (pick_s b A cc code (p + cnt l) 8 s.z (hb.mono h.z) (by omega) hlen (by omega)) (by simp only [argsV, ev, hv]; rfl) h.look.1 h.look.2 rfl ?_
 rintro v z' A' hz ⟨x, rfl, rfl, rfl, hx0, hx1, _⟩
 have hx1 := hx1 (by omega)
 exact VS.id (h.call 7 (sv := .c (.v (.int .i64 x))) (by omega) hl (by simp [cnt, upd, hl, b1]; try omega) (by simp [nms, upd]) (by simp [Fct, isI]; omega))
theorem cfg_11 {l : Nat → Bool} {s : St} (h : InvC z0 b A code.length cc p l s) (hb : By z0 code (.slice A code.length cc)) (hp : 0 ≤ p ∧ p ≤ 800000) (hlen : code.length ≤ 2000) (hl : l 11 = false) (h10 : l 10 = true) : vcT Tryz.prog (.call 35 [.tmp 16, .const (.int .i64 3)]) (some 17) s (StpC z0 b A code.length cc p l 11) := by
 have hv : gt s.t 16 = .c (.v (.pointer (some ⟨b, 0, none⟩))) := (h.fct 10 (by omega) h10).1 (by simp)
 have := cnt_le l
 rw [vcT_call]
 refine callM.toT ?_
 refine callW 1000 (pick_s b A cc code (p + cnt l) 3 s.z (hb.mono h.z) (by omega) hlen (by omega)) (by simp only [argsV, ev, hv]; rfl) h.look.1 h.look.2 rfl ?_
 rintro v z' A' hz ⟨x, rfl, rfl, rfl, hx0, hx1, _⟩
 have hx1 := hx1 (by omega)
 exact VS.id (h.call 11 (sv := .c (.v (.int .i64 x))) (by omega) hl (by simp [cnt, upd, hl, b1]; try omega) (by simp [nms, upd]) (by simp [Fct, isI]; omega))
theorem cfg_15 {l : Nat → Bool} {s : St} (h : InvC z0 b A code.length cc p l s) (hb : By z0 code (.slice A code.length cc)) (hp : 0 ≤ p ∧ p ≤ 800000) (hlen : code.length ≤ 2000) (hl : l 15 = false) (h14 : l 14 = true) : vcT Tryz.prog (.call 35 [.tmp 20, .const (.int .i64 24)]) (some 21) s (StpC z0 b A code.length cc p l 15) := by
 have hv : gt s.t 20 = .c (.v (.pointer (some ⟨b, 0, none⟩))) := (h.fct 14 (by omega) h14).1 (by simp)
 have := cnt_le l
 rw [vcT_call]
 refine callM.toT ?_
 refine callW 1000 (pick_s b A cc code (p + cnt l) 24 s.z (hb.mono h.z) (by omega) hlen (by omega)) (by simp only [argsV, ev, hv]; rfl) h.look.1 h.look.2 rfl ?_
 rintro v z' A' hz ⟨x, rfl, rfl, rfl, hx0, hx1, _⟩
 have hx1 := hx1 (by omega)
 exact VS.id (h.call 15 (sv := .c (.v (.int .i64 x))) (by omega) hl (by simp [cnt, upd, hl, b1]; try omega) (by simp [nms, upd]) (by simp [Fct, isI]; omega))
theorem cfg_19 {l : Nat → Bool} {s : St} (h : InvC z0 b A code.length cc p l s) (hb : By z0 code (.slice A code.length cc)) (hp : 0 ≤ p ∧ p ≤ 800000) (hlen : code.length ≤ 2000) (hl : l 19 = false) (h18 : l 18 = true) : vcT Tryz.prog (.call 35 [.tmp 24, .const (.int .i64 2)]) (some 25) s (StpC z0 b A code.length cc p l 19) := by
 have hv : gt s.t 24 = .c (.v (.pointer (some ⟨b, 0, none⟩))) := (h.fct 18 (by omega) h18).1 (by simp)
 have := cnt_le l
 rw [vcT_call]
 refine callM.toT ?_
 refine callW 1000 (pick_s b A cc code (p + cnt l) 2 s.z (hb.mono h.z) (by omega) hlen (by omega)) (by simp only [argsV, ev, hv]; rfl) h.look.1 h.look.2 rfl ?_
 rintro v z' A' hz ⟨x, rfl, rfl, rfl, hx0, hx1, _⟩
 have hx1 := hx1 (by omega)
 exact VS.id (h.call 19 (sv := .c (.v (.int .i64 x))) (by omega) hl (by simp [cnt, upd, hl, b1]; try omega) (by simp [nms, upd]) (by simp [Fct, isI]; omega))
theorem cfg_23 {l : Nat → Bool} {s : St} (h : InvC z0 b A code.length cc p l s) (hb : By z0 code (.slice A code.length cc)) (hp : 0 ≤ p ∧ p ≤ 800000) (hlen : code.length ≤ 2000) (hl : l 23 = false) (h22 : l 22 = true) : vcT Tryz.prog (.call 35 [.tmp 28, .const (.int .i64 5)]) (some 29) s (StpC z0 b A code.length cc p l 23) := by
 have hv : gt s.t 28 = .c (.v (.pointer (some ⟨b, 0, none⟩))) := (h.fct 22 (by omega) h22).1 (by simp)
 have := cnt_le l
 rw [vcT_call]
 refine callM.toT ?_
 refine callW 1000 (pick_s b A cc code (p + cnt l) 5 s.z (hb.mono h.z) (by omega) hlen (by omega)) (by simp only [argsV, ev, hv]; rfl) h.look.1 h.look.2 rfl ?_
 rintro v z' A' hz ⟨x, rfl, rfl, rfl, hx0, hx1, _⟩
 have hx1 := hx1 (by omega)
 exact VS.id (h.call 23 (sv := .c (.v (.int .i64 x))) (by omega) hl (by simp [cnt, upd, hl, b1]; try omega) (by simp [nms, upd]) (by simp [Fct, isI]; omega))
theorem cfg_2 {l : Nat → Bool} {s : St} (h : InvC z0 b A nn cc p l s) (hl : l 2 = false) (h1 : l 1 = true) : vcT Tryz.prog (.bin .add (.const (.int .i64 1)) (.tmp 7)) (some 8) s (StpC z0 b A nn cc p l 2) := by
 have hf := h.fct 1 (by omega) h1
 have hi : isI 0 1 (gt s.t 7) := by simpa [Fct] using hf
 obtain ⟨x, hv, hx0, hx1⟩ := hi
 simp only [seval, go_sem, hv]
 exact VS.id (h.pure 2 (sv := .c (.v (.int .i64 (IntKind.i64.wrap (1 + x))))) (by omega) hl (by simp [cnt, upd]) (by simp [nms, upd]) (by rw [wrap_in (by omega) (by omega)]; simp [Fct, isI]; omega))
theorem cfg_5 {l : Nat → Bool} {s : St} (h : InvC z0 b A nn cc p l s) (hl : l 5 = false) (h4 : l 4 = true) : vcT Tryz.prog (.bin .add (.const (.int .i64 1)) (.tmp 10)) (some 11) s (StpC z0 b A nn cc p l 5) := by
 have hf := h.fct 4 (by omega) h4
 have hi : isI 0 3 (gt s.t 10) := by simpa [Fct] using hf
 obtain ⟨x, hv, hx0, hx1⟩ := hi
 simp only [seval, go_sem, hv]
 exact VS.id (h.pure 5 (sv := .c (.v (.int .i64 (IntKind.i64.wrap (1 + x))))) (by omega) hl (by simp [cnt, upd]) (by simp [nms, upd]) (by rw [wrap_in (by omega) (by omega)]; simp [Fct, isI]; omega))
theorem cfg_8 {l : Nat → Bool} {s : St} (h : InvC z0 b A nn cc p l s) (hl : l 8 = false) (h7 : l 7 = true) : vcT Tryz.prog (.bin .add (.const (.int .i64 1)) (.tmp 13)) (some 14) s (StpC z0 b A nn cc p l 8) := by
 have hf := h.fct 7 (by omega) h7
 have hi : isI 0 7 (gt s.t 13) := by simpa [Fct] using hf
 obtain ⟨x, hv, hx0, hx1⟩ := hi
 simp only [seval, go_sem, hv]
 exact VS.id (h.pure 8 (sv := .c (.v (.int .i64 (IntKind.i64.wrap (1 + x))))) (by omega) hl (by simp [cnt, upd]) (by simp [nms, upd]) (by rw [wrap_in (by omega) (by omega)]; simp [Fct, isI]; omega))
theorem cfg_16 {l : Nat → Bool} {s : St} (h : InvC z0 b A nn cc p l s) (hl : l 16 = false) (h15 : l 15 = true) : vcT Tryz.prog (.bin .add (.const (.int .i64 1)) (.tmp 21)) (some 22) s (StpC z0 b A nn cc p l 16) := by
 have hf := h.fct 15 (by omega) h15
 have hi : isI 0 23 (gt s.t 21) := by simpa [Fct] using hf
 obtain ⟨x, hv, hx0, hx1⟩ := hi
 simp only [seval, go_sem, hv]
 exact VS.id (h.pure 16 (sv := .c (.v (.int .i64 (IntKind.i64.wrap (1 + x))))) (by omega) hl (by simp [cnt, upd]) (by simp [nms, upd]) (by rw [wrap_in (by omega) (by omega)]; simp [Fct, isI]; omega))
theorem cfg_24 {l : Nat → Bool} {s : St} (h : InvC z0 b A nn cc p l s) (hl : l 24 = false) (h23 : l 23 = true) : vcT Tryz.prog (.bin .add (.const (.int .i64 1)) (.tmp 29)) (some 30) s (StpC z0 b A nn cc p l 24) := by
 have hf := h.fct 23 (by omega) h23
 have hi : isI 0 4 (gt s.t 29) := by simpa [Fct] using hf
 obtain ⟨x, hv, hx0, hx1⟩ := hi
 simp only [seval, go_sem, hv]
 exact VS.id (h.pure 24 (sv := .c (.v (.int .i64 (IntKind.i64.wrap (1 + x))))) (by omega) hl (by simp [cnt, upd]) (by simp [nms, upd]) (by rw [wrap_in (by omega) (by omega)]; simp [Fct, isI]; omega))
end
end Go.Proofs.YtllafcmkppmdgaaGreat
