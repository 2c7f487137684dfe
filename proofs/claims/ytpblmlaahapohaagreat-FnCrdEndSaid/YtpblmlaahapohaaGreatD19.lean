/- Two ends copied, by the program. · Two ends that begin, by the program. · Two ends over a link, by the program: several steps, and one, on two ends that stay. · Codes of functions, group LawN. · Credits: what the laws' walks share. · Whether somebody is at its end, by the program. -/
import Derived.Test.YtpblmlaahapohaaGreatD16
import Derived.Test.YtpblmlaahapohaaGreatD14
import Derived.Test.YtpblmlaahapohaaGreatD4
import Derived.Test.YtpblmlaahapohaaGreatD17
import Derived.Test.YtpblmlaahapohaaGreatD18
import Derived.Test.YtpblmlaahapohaaGreatD15
import Derived.Test.YtpblmlaahapohaaGreatD7
import Derived.Test.YtpblmlaahapohaaGreatD3
import Derived.Test.YtpblmlaahapohaaGreatProg
import Derived.Test.YtpblmlaahapohaaGreatD6
namespace Go.Proofs.YtpblmlaahapohaaGreat
open Go.RowKit
set_option linter.unusedVariables false
set_option linter.unusedSimpArgs false
set_option maxRecDepth 100000
set_option maxHeartbeats 8000000
theorem put28l {cs l : List Value} (h : cs.length = 56) (hl : l.length = 28) : (putV cs 0 l).length = 56 := by simp [putV, hl, h]
theorem put28 {cs l l' : List Value} (h : cs.length = 56) (hl : l.length = 28) (hl' : l'.length = 28) : putV (putV cs 0 l) 28 l' = l ++ l' := by
  have e0 : putV cs 0 l = l ++ cs.drop 28 := by simp [putV, hl]
  have e1 : (l ++ cs.drop 28).take 28 = l := by rw [← hl, List.take_left]
  have e2 : (l ++ cs.drop 28).drop (28 + l'.length) = [] := List.drop_eq_nil_of_le (by simp; omega)
  rw [e0]
  unfold putV
  rw [e1, e2]
  simp
theorem putCpy {d1 d2 : List Value} {a v u : Value} {i o : Nat} (h : d1.length = i * 2) (ho : o = i * 2 + 1) : putV (d1 ++ a :: v :: d2) o [u] = (d1 ++ [a, u]) ++ d2 := by
  subst ho
  have e1 : (d1 ++ a :: v :: d2).take (i * 2 + 1) = d1 ++ [a] := by rw [List.take_append, h]; simp [List.take_of_length_le, h]
  have e2 : (d1 ++ a :: v :: d2).drop (i * 2 + 1 + 1) = d2 := by rw [List.drop_append, h, List.drop_eq_nil_of_le (by omega), show i * 2 + 1 + 1 - i * 2 = 2 by omega]; rfl
  unfold putV
  rw [e1]
  simp only [List.length_singleton]
  rw [e2]
  simp
structure CpmS where
  i : Nat
  ms : List (Option Addr × Nat)
  d : List Value
  z : Zc
theorem take_drop1 {α : Type} {l : List α} {i : Nat} {x : α} (h : l[i]? = some x) : l.drop i = x :: l.drop (i + 1) := by
  have hi : i < l.length := (List.getElem?_eq_some_iff.1 h).1
  rw [List.drop_eq_getElem_cons hi]
  congr 1
  exact (List.getElem?_eq_some_iff.1 h).2
theorem copy_i (c : Cfg) (link : Int) (e0 e1 : End) (n0 n1 : List Msg) (m : WM) (z : Zc) (hP : WldP z e0 e1 n0 n1 m) (hW : WldI ⟨c, [e0, e1], [n0, n1], link⟩) :
    Spec Tryz.prog 44 [wldV c link m] z emp fun u z' A' => ∃ m', u = wldV c link m' ∧ A' = starL (wldL e0 e1 n0 n1 m') ∧ WldB z' e0 e1 n0 n1 m' := by
  have hI0 : EndI c e0 := hW.ends 0 (by omega)
  have hI1 : EndI c e1 := hW.ends 1 (by omega)
  have hN0 : NetI n0 := hW.net 0 (by omega)
  have hN1 : NetI n1 := hW.net 1 (by omega)
  have hE : IsAt m.E := hP.E.isAt (by rw [endsC_len]; omega)
  have hN : IsAt m.N := hP.N.isAt (by simp)
  (refine spec_enter0 Tryz.func44 ic44_ok fr44_ok Tryz.ntmps44 ?_; simp only [seval, go_sem, ic44, fr44])
  refine gO ?_
  refine joinV.le (ι := Nat × List Value × Nat × List Value) (fun i => i.2.1.length = 56 ∧ i.2.2.2 = [.slice none 0 0, .slice none 0 0]) [3, 10, 11, 12, 13, 14, 15, 16, 17, 18, 19, 20, 21, 22] (fun _ => [(3, .c (.p 2 0))])
    (fun i => [(0, .cells tyW [.v (.int .i64 c.mode), .v (.int .i64 c.win), .v (.int .i64 c.mps), .v (.int .i64 c.mtu), .v (.int .i64 c.tri), .v (.slice m.E 2 m.EC), .v (.slice m.N 2 m.NC), .v (.int .i64 link)]), (1, .cells tyW [.v (.int .i64 0), .v (.int .i64 0), .v (.int .i64 0), .v (.int .i64 0), .v (.int .i64 0), .v (.slice none 0 0), .v (.slice none 0 0), .v (.int .i64 0)]),
      (2, .cells tyW [.v (.int .i64 c.mode), .v (.int .i64 c.win), .v (.int .i64 c.mps), .v (.int .i64 c.mtu), .v (.int .i64 c.tri), .v (.slice (some ⟨i.1, 0, none⟩) 2 2), .v (.slice (some ⟨i.2.2.1, 0, none⟩) 2 2), .v (.int .i64 link)]),
      (10, .own (rowA tyE 28 (.slice (some ⟨i.1, 0, none⟩) 2 2) 2 i.2.1)), (11, .own (rowA tyN 1 (.slice (some ⟨i.2.2.1, 0, none⟩) 2 2) 2 i.2.2.2))]) (fun _ => z) 3 (by simp only [anyL, st]; exact rfl) ?_ ?_
  · simp only [seval, go_sem]
    repeat' (first | (refine And.intro ?_ ?_ <;> (try simp only [seval, go_sem])) | (refine oth_makeSliceB 10 atyE rfl rfl rfl (n := 2) (by omega) (by omega) (fun bE zE hzE => ?_); (generalize hcE : (madeCells zE.cells (2 * 28)).toList = csE); (have h56 : csE.length = 56 := by rw [← hcE]; simp [size_madeCells]); clear hcE hzE; (try simp only [seval, go_sem])) | (refine oth_makeSliceB 11 atyN rfl rfl rfl (n := 2) (by omega) (by omega) (fun bN zN hzN => ?_); simp only [Nat.mul_one, nets_zero hzN]; (try simp only [seval, go_sem])))
    all_goals refine ⟨(bE, csE, bN, [.slice none 0 0, .slice none 0 0]), ⟨h56, rfl⟩, ?_⟩
    all_goals exact lX
  · rintro ⟨bE, csE, bN, csN⟩ ⟨h56, hcs⟩
    dsimp only at h56 hcs ⊢
    subst hcs
    refine gO ?_
    refine loopV.rounds 3 ?_
    rw [roundsV_succ]
    try simp only [show IntKind.i64.wrap 1 = 1 from rfl]
    refine gO ?_
    try simp only [seval, go_sem, show decide ((0 : Int) < ((2 : Nat) : Int)) = true from rfl]
    refine gO ?_
    ((first | refine ⟨⟨by omega, hE⟩, ?_⟩ | refine ⟨hE, ?_⟩); (try simp only [seval, go_sem]))
    refine ldF.agg (sz := 28) _ rfl (by exact .inl (hP.E.sub 0 _ (fun i u hu => ends_get0 hu))) ?_
    simp only [seval, go_sem, endC]
    refine gO ?_
    refine tT ?_; refine callP (txcopy_i e0.tx _ _ z hP.e0.fl hP.e0.qu (by have := hI0.tx.win; have := hI0.tx.cfg.win; omega) (by have := hI0.tx.queue; omega) (fun p hp => by have := hI0.tx.flSmall p hp; omega) (fun p hp => by have := hI0.tx.quSmall p hp; omega)) rfl rfl ?_; rintro u az1 haz1 ⟨afA, aqA, rfl, ahf, ahq⟩; refine gO ?_
    refine tT ?_; refine callP (rxcopy_i e0.rx _ az1 (Sl.mono haz1 hP.e0.jo) (by have := hI0.rx.join.le; omega)) rfl rfl ?_; rintro u az2 haz2 ⟨ajA, rfl, ahj⟩; refine gO ?_
    have haz02 := Zc.trans' haz1 haz2
    refine tT ?_; refine callP (ctxcopy_i e0.ctx _ az2 (Sl.mono haz02 hP.e0.cq) (by have := hI0.ctx.queue; omega) (fun p hp => by have := hI0.ctx.small p hp; omega)) rfl rfl ?_; rintro u az3 haz3 ⟨acA, rfl, ahc⟩; refine gO ?_
    have haz03 := Zc.trans' haz02 haz3
    refine tT ?_; refine callP (crxcopy_i e0.crx _ az3 (Sl.mono haz03 hP.e0.kj) (by have := hI0.crx.2.le; omega)) rfl rfl ?_; rintro u az4 haz4 ⟨akA, rfl, ahk⟩; refine gO ?_
    have haz04 := Zc.trans' haz03 haz4
    refine tT ?_; refine callO 22 (copysdusO e0.put _ az4 (Sl.mono haz04 hP.e0.pu) (by have := hI0.put.1; omega) (fun p hp => by have := hI0.put.2 p hp; omega)) rfl rfl rfl ?_; rintro u az5 A' haz5 ⟨apA, apC, apV, rfl, rfl, ahpc, ahpe⟩; refine gO ?_
    have haz05 := Zc.trans' haz04 haz5
    refine tT ?_; refine callO 23 (copysdusO e0.got _ az5 (Sl.mono haz05 hP.e0.go) (by have := hI0.got.1; omega) (fun p hp => by have := hI0.got.2 p hp; omega)) rfl rfl rfl ?_; rintro u az6 A' haz6 ⟨agA, agC, agV, rfl, rfl, ahgc, ahge⟩; refine gO ?_
    have haz06 := Zc.trans' haz05 haz6
    ((first | refine ⟨⟨by omega, ⟨bE, 0, rfl⟩⟩, ?_⟩ | refine ⟨⟨bE, 0, rfl⟩, ?_⟩); (try simp only [seval, go_sem]))
    refine stoV_row 10 rfl rfl rfl rfl rfl rfl rfl (by simp [h56]) ?_
    simp only [seval, go_sem]
    refine gO ?_
    simp only [seval, go_sem, roundK_normal]
    have hP1 := hP.mono haz06
    rw [roundsV_succ]
    try simp only [show IntKind.i64.wrap 1 = 1 from rfl]
    refine gO ?_
    try simp only [seval, go_sem, show decide ((1 : Int) < ((2 : Nat) : Int)) = true from rfl]
    refine gO ?_
    ((first | refine ⟨⟨by omega, hE⟩, ?_⟩ | refine ⟨hE, ?_⟩); (try simp only [seval, go_sem]))
    refine ldF.agg (sz := 28) _ rfl (by exact .inl (hP1.E.sub 28 _ (fun i u hu => ends_get1 hu))) ?_
    simp only [seval, go_sem, endC]
    refine gO ?_
    refine tT ?_; refine callP (txcopy_i e1.tx _ _ az6 hP1.e1.fl hP1.e1.qu (by have := hI1.tx.win; have := hI1.tx.cfg.win; omega) (by have := hI1.tx.queue; omega) (fun p hp => by have := hI1.tx.flSmall p hp; omega) (fun p hp => by have := hI1.tx.quSmall p hp; omega)) rfl rfl ?_; rintro u bz1 hbz1 ⟨bfA, bqA, rfl, bhf, bhq⟩; refine gO ?_
    refine tT ?_; refine callP (rxcopy_i e1.rx _ bz1 (Sl.mono hbz1 hP1.e1.jo) (by have := hI1.rx.join.le; omega)) rfl rfl ?_; rintro u bz2 hbz2 ⟨bjA, rfl, bhj⟩; refine gO ?_
    have hbz02 := Zc.trans' hbz1 hbz2
    refine tT ?_; refine callP (ctxcopy_i e1.ctx _ bz2 (Sl.mono hbz02 hP1.e1.cq) (by have := hI1.ctx.queue; omega) (fun p hp => by have := hI1.ctx.small p hp; omega)) rfl rfl ?_; rintro u bz3 hbz3 ⟨bcA, rfl, bhc⟩; refine gO ?_
    have hbz03 := Zc.trans' hbz02 hbz3
    refine tT ?_; refine callP (crxcopy_i e1.crx _ bz3 (Sl.mono hbz03 hP1.e1.kj) (by have := hI1.crx.2.le; omega)) rfl rfl ?_; rintro u bz4 hbz4 ⟨bkA, rfl, bhk⟩; refine gO ?_
    have hbz04 := Zc.trans' hbz03 hbz4
    refine tT ?_; refine callO 32 (copysdusO e1.put _ bz4 (Sl.mono hbz04 hP1.e1.pu) (by have := hI1.put.1; omega) (fun p hp => by have := hI1.put.2 p hp; omega)) rfl rfl rfl ?_; rintro u bz5 A' hbz5 ⟨bpA, bpC, bpV, rfl, rfl, bhpc, bhpe⟩; refine gO ?_
    have hbz05 := Zc.trans' hbz04 hbz5
    refine tT ?_; refine callO 33 (copysdusO e1.got _ bz5 (Sl.mono hbz05 hP1.e1.go) (by have := hI1.got.1; omega) (fun p hp => by have := hI1.got.2 p hp; omega)) rfl rfl rfl ?_; rintro u bz6 A' hbz6 ⟨bgA, bgC, bgV, rfl, rfl, bhgc, bhge⟩; refine gO ?_
    have hbz06 := Zc.trans' hbz05 hbz6
    ((first | refine ⟨⟨by omega, ⟨bE, 0, rfl⟩⟩, ?_⟩ | refine ⟨⟨bE, 0, rfl⟩, ?_⟩); (try simp only [seval, go_sem]))
    refine stoV_row 10 rfl rfl rfl rfl rfl rfl rfl (by rw [put28l h56 rfl]; simp) ?_
    rw [put28 h56 rfl rfl]
    simp only [seval, go_sem]
    refine gO ?_
    simp only [seval, go_sem, roundK_normal]
    have hP2 := hP1.mono hbz06
    rw [roundsV_succ]
    try simp only [show IntKind.i64.wrap 2 = 2 from rfl]
    refine gO ?_
    try simp only [seval, go_sem, show decide ((2 : Int) < ((2 : Nat) : Int)) = false from rfl]
    refine gO ?_
    simp only [seval, go_sem, roundK_exit]
    refine gO ?_
    refine loopV.tf (Tf.own (A' := rowA tyE 28 (.slice (some ⟨bE, 0, none⟩) 2 2) 2 (endsC e0 e1 ⟨afA, e0.tx.flight.length, [], aqA, e0.tx.queue.length, [], apA, apC, apV, agA, agC, agV, ajA, e0.rx.join.got.length, acA, e0.ctx.queue.length, akA, e0.crx.join.got.length⟩ ⟨bfA, e1.tx.flight.length, [], bqA, e1.tx.queue.length, [], bpA, bpC, bpV, bgA, bgC, bgV, bjA, e1.rx.join.got.length, bcA, e1.ctx.queue.length, bkA, e1.crx.join.got.length⟩)) 10 rfl rfl (fun w F h => h)) ?_
    dsimp only
    refine loopV.rounds 3 ?_
    rw [roundsV_succ]
    try simp only [show IntKind.i64.wrap 1 = 1 from rfl]
    refine gO ?_
    try simp only [seval, go_sem, show decide ((0 : Int) < ((2 : Nat) : Int)) = true from rfl]
    refine gO ?_
    obtain ⟨cs0, he0, hr0⟩ := Els.one1 hP2.n0
    ((first | refine ⟨⟨by omega, hN⟩, ?_⟩ | refine ⟨hN, ?_⟩); (try simp only [seval, go_sem]))
    (refine ldF.one _ (by first | exact .inl (hP2.N.cell 0 rfl) | exact (hP2.N.cell 0 rfl)) ?_; (try simp only [seval, go_sem]))
    refine gO ?_
    refine tT ?_; refine callO 40 (cloneMO m.n0.A n0.length m.n0.C cs0 bz6 hr0 he0.length he0.one (by have := hN0.1; omega)) rfl rfl rfl ?_; rintro u w0 A' hw0 ⟨rA0, rfl, rfl, hat0⟩; refine gO ?_
    ((first | refine ⟨⟨by omega, ⟨bN, 0, rfl⟩⟩, ?_⟩ | refine ⟨⟨bN, 0, rfl⟩, ?_⟩); (try simp only [seval, go_sem]))
    (refine stoV_row 11 rfl rfl rfl rfl rfl rfl rfl (by simp) ?_; simp only [seval, go_sem, putV]; refine gO ?_)
    refine loopV.tf (Tf.addE 41 rfl) ?_
    dsimp only
    refine loop_updF (n := 5) [40, 41] (ι := CpmS) (fun s => w0 ≤ s.z ∧ s.i ≤ n0.length ∧ netO (n0.take s.i) s.ms ∧ Els mRep s.z (n0.drop s.i) s.d) (fun s => [(71, .c (.v (.int .i64 s.i)))]) (fun s => [(40, .own (rowA tyM 2 (.slice rA0 n0.length n0.length) n0.length (netV (n0.take s.i) s.ms ++ s.d))), (41, .own (starL (netB (n0.take s.i) s.ms)))]) (fun s => s.z) (fun s => n0.length - s.i) ⟨0, [], cs0, w0⟩ ⟨Zc.rfl' _, by simp, trivial, by simpa using he0.mono hw0⟩ (by (simp only [wrI, wrR, anyL, st, List.append_nil, List.nil_append, List.cons_append]); exact rfl) (by simp only [delL, del, Nat.reduceEqDiff, reduceCtorEq, if_true, if_false, reduceIte, Nat.succ_ne_self]; exact rfl) ?_ ?_
    · simp only [List.cons_append, List.nil_append, List.take_zero, netV, netB]
      exact lX
    · rintro ⟨i, ms0, d0, y0⟩ ⟨hy0, hi, hok0, hd0⟩
      dsimp only at *
      simp only [List.cons_append, List.nil_append]
      refine gO ?_
      (with_reducible refine condI.split (fun hg => ?_) (fun hg => ?_) <;> (try simp only [hg]) <;> (try simp only [seval, go_sem]))
      · have hi' : i < n0.length := by have := of_decide_eq_true hg; omega
        obtain ⟨x, hx⟩ : ∃ x, n0[i]? = some x := ⟨_, List.getElem?_eq_getElem hi'⟩
        have hwy := Zc.trans' hw0 hy0
        obtain ⟨c1, ⟨v1, rfl, hb⟩, hrx⟩ := (he0.mono hwy).at (hr0.mono hwy) hx
        obtain ⟨A1, k1, rfl, hk1, hB1, hrb⟩ := By.form hb
        have hat : IsAt m.n0.A := he0.isAt hr0 (by decide) hi'
        have h15 := hN0.2 x (List.mem_of_getElem? hx)
        have hls := hok0.len
        have hn30 := hN0.1
        have htl : (n0.take i).length = i := by simp; omega
        have hvl := netV_len hok0
        rw [htl] at hvl
        rw [take_drop1 hx] at hd0
        obtain ⟨_, d2, rfl, ⟨v2, rfl, _⟩, hd2⟩ := hd0
        have hd2l : d2.length = (n0.drop (i + 1)).length * 2 := hd2.length
        rw [List.length_drop] at hd2l
        have hnv : ∀ A c, netV (n0.take i) ms0 ++ [.bool x.bent, .slice A x.bytes.length c] = netV (n0.take (i + 1)) (ms0 ++ [(A, c)]) := fun A c => by rw [take_snoc' hx, netV_snoc _ x _ _ _ hls]
        have hnb : ∀ A c, netB (n0.take i) ms0 ++ [bysA x.bytes A c] = netB (n0.take (i + 1)) (ms0 ++ [(A, c)]) := fun A c => by rw [take_snoc' hx, netB_snoc _ x _ _ _ hls]
        refine gO ?_
        (refine ⟨⟨by omega, by omega, hat⟩, ?_⟩; (try simp only [seval, go_sem]))
        (refine ldF.agg _ rfl (by first | exact .inl hrx | exact hrx) ?_; (try simp only [seval, go_sem]))
        refine gO ?_
        (with_reducible refine joinV.id ?_; simp only [seval, go_sem])
        ((first | refine ⟨⟨by omega, ⟨bN, 0, rfl⟩⟩, ?_⟩ | refine ⟨⟨bN, 0, rfl⟩, ?_⟩); (try simp only [seval, go_sem]))
        repeat' (first | (refine And.intro ?_ ?_ <;> (try simp only [seval, go_sem])) | (refine ldF.one _ (RdS.cell 11 rfl rfl) ?_; refine gO ?_))
        all_goals refine tT ?_; refine callO 95 (cloneByO x.bytes _ y0 hb (by omega)) rfl rfl rfl ?_; rintro v3 z3 A3 hz3 ⟨A5, rfl, rfl⟩; refine gO ?_
        repeat' (refine ldF.one _ (RdS.cell 11 rfl rfl) ?_; refine gO ?_)
        all_goals refine ⟨⟨by omega, by omega, hat0 (by omega)⟩, ?_⟩
        all_goals (try simp only [seval, go_sem])
        all_goals refine stoV_row 40 rfl rfl rfl rfl rfl rfl rfl (by simp only [List.length_append, List.length_cons, List.length_nil, hvl, hd2l]; omega) ?_
        all_goals rw [putCpy hvl rfl, hnv]
        all_goals simp only [seval, go_sem]
        all_goals refine vsI.pk 41 [41, 95] ?_
        all_goals dsimp only
        all_goals refine vsI.tf (Tf.own 41 rfl rfl (fun w F h => starL_push h)) ?_
        all_goals simp only [hnb]
        all_goals refine gO ?_
        all_goals refine ⟨⟨i + 1, ms0 ++ [(A5, x.bytes.length)], d2, z3⟩, ⟨Zc.trans' hy0 hz3, by dsimp only; omega, by dsimp only; rw [take_snoc' hx]; exact hok0.snoc (Nat.le_refl _) hB1, hd2.mono hz3⟩, by dsimp only; omega, ?_⟩
        all_goals simp only [List.cons_append, List.nil_append]
        all_goals exact lX
      · have hil : i = n0.length := by have := of_decide_eq_false hg; omega
        subst hil
        rw [List.take_length] at hok0
        rw [List.drop_length] at hd0
        obtain rfl : d0 = [] := hd0
        simp only [List.take_length, List.append_nil]
        refine gO ?_
        simp only [seval, go_sem, roundK_normal]
        have hP3 := hP2.mono (Zc.trans' hw0 hy0)
        rw [roundsV_succ]
        try simp only [show IntKind.i64.wrap 1 = 1 from rfl]
        refine gO ?_
        try simp only [seval, go_sem, show decide ((1 : Int) < ((2 : Nat) : Int)) = true from rfl]
        refine gO ?_
        obtain ⟨cs1, he1, hr1⟩ := Els.one1 hP3.n1
        ((first | refine ⟨⟨by omega, hN⟩, ?_⟩ | refine ⟨hN, ?_⟩); (try simp only [seval, go_sem]))
        (refine ldF.one _ (by first | exact .inl (hP3.N.cell 1 rfl) | exact (hP3.N.cell 1 rfl)) ?_; (try simp only [seval, go_sem]))
        refine gO ?_
        refine tT ?_; refine callO 50 (cloneMO m.n1.A n1.length m.n1.C cs1 y0 hr1 he1.length he1.one (by have := hN1.1; omega)) rfl rfl rfl ?_; rintro u w1 A' hw1 ⟨rA1, rfl, rfl, hat1⟩; refine gO ?_
        ((first | refine ⟨⟨by omega, ⟨bN, 0, rfl⟩⟩, ?_⟩ | refine ⟨⟨bN, 0, rfl⟩, ?_⟩); (try simp only [seval, go_sem]))
        (refine stoV_row 11 rfl rfl rfl rfl rfl rfl rfl (by simp) ?_; simp only [seval, go_sem, putV]; refine gO ?_)
        refine loopV.tf (Tf.addE 51 rfl) ?_
        dsimp only
        refine loop_updF (n := 5) [50, 51] (ι := CpmS) (fun s => w1 ≤ s.z ∧ s.i ≤ n1.length ∧ netO (n1.take s.i) s.ms ∧ Els mRep s.z (n1.drop s.i) s.d) (fun s => [(71, .c (.v (.int .i64 s.i)))]) (fun s => [(50, .own (rowA tyM 2 (.slice rA1 n1.length n1.length) n1.length (netV (n1.take s.i) s.ms ++ s.d))), (51, .own (starL (netB (n1.take s.i) s.ms)))]) (fun s => s.z) (fun s => n1.length - s.i) ⟨0, [], cs1, w1⟩ ⟨Zc.rfl' _, by simp, trivial, by simpa using he1.mono hw1⟩ (by (simp only [wrI, wrR, anyL, st, List.append_nil, List.nil_append, List.cons_append]); exact rfl) (by simp only [delL, del, Nat.reduceEqDiff, reduceCtorEq, if_true, if_false, reduceIte, Nat.succ_ne_self]; exact rfl) ?_ ?_
        · simp only [List.cons_append, List.nil_append, List.take_zero, netV, netB]
          exact lX
        · rintro ⟨i, ms1, d1, y1⟩ ⟨hy1, hi, hok1, hd1⟩
          dsimp only at *
          simp only [List.cons_append, List.nil_append]
          refine gO ?_
          (with_reducible refine condI.split (fun hg => ?_) (fun hg => ?_) <;> (try simp only [hg]) <;> (try simp only [seval, go_sem]))
          · have hi' : i < n1.length := by have := of_decide_eq_true hg; omega
            obtain ⟨x, hx⟩ : ∃ x, n1[i]? = some x := ⟨_, List.getElem?_eq_getElem hi'⟩
            have hwy := Zc.trans' hw1 hy1
            obtain ⟨c1, ⟨v1, rfl, hb⟩, hrx⟩ := (he1.mono hwy).at (hr1.mono hwy) hx
            obtain ⟨A1, k1, rfl, hk1, hB1, hrb⟩ := By.form hb
            have hat : IsAt m.n1.A := he1.isAt hr1 (by decide) hi'
            have h15 := hN1.2 x (List.mem_of_getElem? hx)
            have hls := hok1.len
            have hn30 := hN1.1
            have htl : (n1.take i).length = i := by simp; omega
            have hvl := netV_len hok1
            rw [htl] at hvl
            rw [take_drop1 hx] at hd1
            obtain ⟨_, d2, rfl, ⟨v2, rfl, _⟩, hd2⟩ := hd1
            have hd2l : d2.length = (n1.drop (i + 1)).length * 2 := hd2.length
            rw [List.length_drop] at hd2l
            have hnv : ∀ A c, netV (n1.take i) ms1 ++ [.bool x.bent, .slice A x.bytes.length c] = netV (n1.take (i + 1)) (ms1 ++ [(A, c)]) := fun A c => by rw [take_snoc' hx, netV_snoc _ x _ _ _ hls]
            have hnb : ∀ A c, netB (n1.take i) ms1 ++ [bysA x.bytes A c] = netB (n1.take (i + 1)) (ms1 ++ [(A, c)]) := fun A c => by rw [take_snoc' hx, netB_snoc _ x _ _ _ hls]
            refine gO ?_
            (refine ⟨⟨by omega, by omega, hat⟩, ?_⟩; (try simp only [seval, go_sem]))
            (refine ldF.agg _ rfl (by first | exact .inl hrx | exact hrx) ?_; (try simp only [seval, go_sem]))
            refine gO ?_
            (with_reducible refine joinV.id ?_; simp only [seval, go_sem])
            ((first | refine ⟨⟨by omega, ⟨bN, 0, rfl⟩⟩, ?_⟩ | refine ⟨⟨bN, 0, rfl⟩, ?_⟩); (try simp only [seval, go_sem]))
            repeat' (first | (refine And.intro ?_ ?_ <;> (try simp only [seval, go_sem])) | (refine ldF.one _ (RdS.cell 11 rfl rfl) ?_; refine gO ?_))
            all_goals refine tT ?_; refine callO 95 (cloneByO x.bytes _ y1 hb (by omega)) rfl rfl rfl ?_; rintro v3 z3 A3 hz3 ⟨A5, rfl, rfl⟩; refine gO ?_
            repeat' (refine ldF.one _ (RdS.cell 11 rfl rfl) ?_; refine gO ?_)
            all_goals refine ⟨⟨by omega, by omega, hat1 (by omega)⟩, ?_⟩
            all_goals (try simp only [seval, go_sem])
            all_goals refine stoV_row 50 rfl rfl rfl rfl rfl rfl rfl (by simp only [List.length_append, List.length_cons, List.length_nil, hvl, hd2l]; omega) ?_
            all_goals rw [putCpy hvl rfl, hnv]
            all_goals simp only [seval, go_sem]
            all_goals refine vsI.pk 51 [51, 95] ?_
            all_goals dsimp only
            all_goals refine vsI.tf (Tf.own 51 rfl rfl (fun w F h => starL_push h)) ?_
            all_goals simp only [hnb]
            all_goals refine gO ?_
            all_goals refine ⟨⟨i + 1, ms1 ++ [(A5, x.bytes.length)], d2, z3⟩, ⟨Zc.trans' hy1 hz3, by dsimp only; omega, by dsimp only; rw [take_snoc' hx]; exact hok1.snoc (Nat.le_refl _) hB1, hd2.mono hz3⟩, by dsimp only; omega, ?_⟩
            all_goals simp only [List.cons_append, List.nil_append]
            all_goals exact lX
          · have hil : i = n1.length := by have := of_decide_eq_false hg; omega
            subst hil
            rw [List.take_length] at hok1
            rw [List.drop_length] at hd1
            obtain rfl : d1 = [] := hd1
            simp only [List.take_length, List.append_nil]
            refine gO ?_
            simp only [seval, go_sem, roundK_normal]
            have hP3 := hP3.mono (Zc.trans' hw1 hy1)
            rw [roundsV_succ]
            try simp only [show IntKind.i64.wrap 2 = 2 from rfl]
            refine gO ?_
            try simp only [seval, go_sem, show decide ((2 : Int) < ((2 : Nat) : Int)) = false from rfl]
            refine gO ?_
            simp only [seval, go_sem, roundK_exit]
            refine gO ?_
            (refine FinV.pk 999 [10, 11, 22, 23, 32, 33, 40, 41, 50, 51] ?_); dsimp only
            refine fP ?_
            have u6 := Zc.trans' (Zc.trans' hw0 hy0) (Zc.trans' hw1 hy1)
            have u5 := Zc.trans' hbz6 u6
            have u4 := Zc.trans' hbz5 u5
            have u3 := Zc.trans' hbz4 u4
            have u2 := Zc.trans' hbz3 u3
            have u1 := Zc.trans' hbz2 u2
            have t6 := Zc.trans' hbz06 u6
            have t5 := Zc.trans' haz6 t6
            have t4 := Zc.trans' haz5 t5
            have t3 := Zc.trans' haz4 t4
            have t2 := Zc.trans' haz3 t3
            have t1 := Zc.trans' haz2 t2
            exact ⟨⟨some ⟨bE, 0, none⟩, 2, some ⟨bN, 0, none⟩, 2, ⟨afA, e0.tx.flight.length, [], aqA, e0.tx.queue.length, [], apA, apC, apV, agA, agC, agV, ajA, e0.rx.join.got.length, acA, e0.ctx.queue.length, akA, e0.crx.join.got.length⟩, ⟨bfA, e1.tx.flight.length, [], bqA, e1.tx.queue.length, [], bpA, bpC, bpV, bgA, bgC, bgV, bjA, e1.rx.join.got.length, bcA, e1.ctx.queue.length, bkA, e1.crx.join.got.length⟩, ⟨rA0, n0.length, ms0⟩, ⟨rA1, n1.length, ms1⟩⟩, rfl, rfl,
              ⟨⟨ahf.mono t1, ahq.mono t1, ahpe.mono t5, ahpc, ahge.mono t6, ahgc, Sl.mono t2 ahj, ahc.mono t3, Sl.mono t4 ahk⟩, ⟨bhf.mono u1, bhq.mono u1, bhpe.mono u5, bhpc, bhge.mono u6, bhgc, Sl.mono u2 bhj, bhc.mono u3, Sl.mono u4 bhk⟩, ⟨hok0, Nat.le_refl _⟩, ⟨hok1, Nat.le_refl _⟩⟩⟩
set_option maxHeartbeats 2000000
def endM0 : EndM := ⟨none, 0, [], none, 0, [], none, 0, [], none, 0, [], none, 0, none, 0, none, 0⟩
def zeroE : Value := .agg #[.int .i64 0, .int .i64 0, .slice none 0 0, .int .i64 0, .slice none 0 0, .bool false, .int .i64 0, .bool false, .int .i64 0, .bool false, .int .i64 0, .int .i64 0, .int .i64 0, .slice none 0 0, .bool false, .bool false, .bool false, .int .i64 0, .slice none 0 0, .int .i64 0, .int .i64 0, .bool false, .int .i64 0, .int .i64 0, .slice none 0 0, .bool false, .slice none 0 0, .slice none 0 0]
theorem ends_zero' : (madeCells zeroE.cells 56).toList = endsC end0 end0 endM0 endM0 := by kernel_rfl
theorem ends_zero {z0 : Value} (h : ∃ i, Tryz.prog.info? tyE = some i ∧ i.zero = some z0) : (madeCells z0.cells 56).toList = endsC end0 end0 endM0 endM0 := by
  obtain ⟨i, h1, h2⟩ := h
  have h3 : (Tryz.prog.info? tyE).bind (·.zero) = some zeroE := by kernel_rfl
  rw [h1, Option.bind_some, h2] at h3
  injection h3 with h3
  subst h3
  exact ends_zero'
def WldF (c : Cfg) (w : Wld) (u : Value) (z : Zc) : Prop := ∃ e0 e1 n0 n1 m link, w = ⟨c, [e0, e1], [n0, n1], link⟩ ∧ u = wldV c link m ∧ WldP z e0 e1 n0 n1 m
theorem wldnew_i (c : Cfg) (z : Zc) (hc : CfgI c) : PSpec Tryz.prog 10 [vCfg c] z (WldF c (wldNew c)) := by
  have e : wldNew c = ⟨c, [end0, end0], [[], []], 0⟩ := by unfold wldNew; rw [if_pos (cfgOk_iff.mpr hc)]
  rw [e]
  (refine pspec_enter Tryz.func10 ic10_ok fr10_ok Tryz.ntmps10 ?_; simp only [seval, go_sem, ic10, fr10])
  refine gO ?_
  refine tT ?_; refine callP (cfgok_i c z) rfl rfl ?_; rintro _ _ - ⟨rfl, rfl⟩; refine gO ?_
  simp only [cfgOk_iff.2 hc]
  refine gO ?_
  (with_reducible refine joinV.id ?_; simp only [seval, go_sem])
  repeat' (first | (refine And.intro ?_ ?_ <;> (try simp only [seval, go_sem])) | (refine oth_makeSliceB 10 atyE rfl rfl rfl (n := 2) (by omega) (by omega) (fun bE zE hzE => ?_); simp only [show 2 * 28 = 56 from rfl, ends_zero hzE]; (try simp only [seval, go_sem])) | (refine oth_makeSliceB 11 atyN rfl rfl rfl (n := 2) (by omega) (by omega) (fun bN zN hzN => ?_); simp only [Nat.mul_one, nets_zero hzN]; (try simp only [seval, go_sem])))
  all_goals refine gO ?_
  all_goals refine FinV.frzA 10 rfl RdA.row (fun z5 hz5 hr5 => ?_)
  all_goals dsimp only
  all_goals refine FinV.frzA 11 rfl RdA.row (fun z6 hz6 hr6 => ?_)
  all_goals (first|refine fN ?_|exact fZ)
  all_goals dsimp only at hz6
  all_goals exact ⟨end0, end0, [], [], ⟨some ⟨bE, 0, none⟩, 2, some ⟨bN, 0, none⟩, 2, endM0, endM0, ⟨none, 0, []⟩, ⟨none, 0, []⟩⟩, 0, rfl, rfl, ⟨hr5.mono hz6, hr6, ⟨Sl.nil _ _ _, Sl.nil _ _ _, Sl.nil _ _ _, Sl.nil _ _ _, Sl.nil _ _ _, Sl.nil _ _ _, Sl.nil _ _ _⟩, ⟨Sl.nil _ _ _, Sl.nil _ _ _, Sl.nil _ _ _, Sl.nil _ _ _, Sl.nil _ _ _, Sl.nil _ _ _, Sl.nil _ _ _⟩, Sl.nil _ _ _, Sl.nil _ _ _⟩⟩
set_option maxHeartbeats 4000000
structure RunS where
  i : Nat
  e0 : End
  e1 : End
  n0 : List Msg
  n1 : List Msg
  link : Int
  m : WM
  z : Zc
theorem wldrun_i (Q : Wld → Evt → Prop) (hQ : StepP Q) (c : Cfg) (link : Int) (e0 e1 : End) (n0 n1 : List Msg) (m : WM) (evs : List Evt) (A : Option Addr) (k : Nat) (z : Zc) (hP : WldP z e0 e1 n0 n1 m) (hW : WldI ⟨c, [e0, e1], [n0, n1], link⟩) (hE : Sl eRep z evs (.slice A evs.length k)) (hl : evs.length ≤ 400)
    (hS : ∀ i ev, evs[i]? = some ev → Q (run false ⟨c, [e0, e1], [n0, n1], link⟩ (evs.take i)) ev) : PSpec Tryz.prog 21 [wldV c link m, .slice A evs.length k] z (WldF c (run false ⟨c, [e0, e1], [n0, n1], link⟩ evs)) := by
  obtain ⟨csv, hev, hrv⟩ := Els.one1 hE
  have d4 : decide ((evs.length : Int) > 400) = false := decide_eq_false (by omega)
  (refine pspec_enter Tryz.func21 ic21_ok fr21_ok Tryz.ntmps21 ?_; simp only [seval, go_sem, ic21, fr21])
  refine gO ?_
  refine tT ?_; refine callP (wldok_i c link e0 e1 n0 n1 m z hP hW) rfl rfl ?_; rintro u z1 hz1 rfl; refine gO ?_
  simp only [seval, go_sem, d4]
  refine gO ?_
  refine tT ?_; refine callO 60 (copy_i c link e0 e1 n0 n1 m z1 (hP.mono hz1) hW) rfl rfl rfl ?_; rintro u z2 A' hz2 ⟨m2, rfl, rfl, hR2⟩; refine gO ?_
  refine loopV.tf (Tf.open' 60 [10, 11, 22, 23, 32, 33, 40, 41, 50, 51] rfl rfl rfl) ?_
  simp only [seval, go_sem, zipL]
  have hz02 := Zc.trans' hz1 hz2
  refine loop_upd (ι := RunS) (n := 3) (fun s => z2 ≤ s.z ∧ s.i ≤ evs.length ∧ run false ⟨c, [e0, e1], [n0, n1], link⟩ (evs.take s.i) = ⟨c, [s.e0, s.e1], [s.n0, s.n1], s.link⟩ ∧ WldB s.z s.e0 s.e1 s.n0 s.n1 s.m) (fun s => [(21, .c (.v (.int .i64 s.i)))])
    (fun s => [(0, .cells tyW (wldE c link m)), (1, .cells tyW [.v (.int .i64 0), .v (.int .i64 0), .v (.int .i64 0), .v (.int .i64 0), .v (.int .i64 0), .v (.slice none 0 0), .v (.slice none 0 0), .v (.int .i64 0)]), (2, .cells tyW (wldE c s.link s.m)),
      (10, .own (rowA tyE 28 (.slice s.m.E 2 s.m.EC) 2 (endsC s.e0 s.e1 s.m.m0 s.m.m1))), (11, .own (rowA tyN 1 (.slice s.m.N 2 s.m.NC) 2 [.slice s.m.n0.A s.n0.length s.m.n0.C, .slice s.m.n1.A s.n1.length s.m.n1.C])),
      (22, .own (rowA tyS 1 (.slice s.m.m0.pA s.e0.put.length s.m.m0.pC) s.e0.put.length s.m.m0.pV)), (23, .own (rowA tyS 1 (.slice s.m.m0.gA s.e0.got.length s.m.m0.gC) s.e0.got.length s.m.m0.gV)), (32, .own (rowA tyS 1 (.slice s.m.m1.pA s.e1.put.length s.m.m1.pC) s.e1.put.length s.m.m1.pV)), (33, .own (rowA tyS 1 (.slice s.m.m1.gA s.e1.got.length s.m.m1.gC) s.e1.got.length s.m.m1.gV)),
      (40, .own (rowA tyM 2 (.slice s.m.n0.A s.n0.length s.m.n0.C) s.n0.length (netV s.n0 s.m.n0.ms))), (41, .own (starL (netB s.n0 s.m.n0.ms))), (50, .own (rowA tyM 2 (.slice s.m.n1.A s.n1.length s.m.n1.C) s.n1.length (netV s.n1 s.m.n1.ms))), (51, .own (starL (netB s.n1 s.m.n1.ms)))]) (fun s => s.z) (fun s => evs.length - s.i) ⟨0, e0, e1, n0, n1, link, m2, z2⟩ ⟨Zc.rfl' _, by simp, rfl, hR2⟩ (by (simp only [wrI, wrR, anyL, st, List.append_nil, List.nil_append, List.cons_append]); exact rfl) ?_ ?_
  · simp only [wldE]
    exact lX
  · rintro ⟨i, f0, f1, g0, g1, lk, m3, z3⟩ ⟨hz3, hi, hrun, hR3⟩
    dsimp only at *
    simp only [wldE]
    have hW3 := run_I (g := false) (l := evs.take i) hW
    rw [hrun] at hW3
    refine gO ?_
    (with_reducible refine condI.split (fun hg => ?_) (fun hg => ?_) <;> (try simp only [hg]) <;> (try simp only [seval, go_sem]))
    · have hi' : i < evs.length := by have := of_decide_eq_true hg; omega
      obtain ⟨ev, hx⟩ : ∃ x, evs[i]? = some x := ⟨_, List.getElem?_eq_getElem hi'⟩
      have hSt := hS i ev hx
      rw [hrun] at hSt
      have hz03 := Zc.trans' hz02 hz3
      obtain ⟨c1, ⟨v, rfl, hb⟩, hr1⟩ := (hev.mono hz03).at (hrv.mono hz03) hx
      obtain ⟨A1, k1, rfl, hk1, hB1, hrb⟩ := By.form hb
      have hat : IsAt A := hev.isAt hrv (by decide) hi'
      refine gO ?_
      (refine ⟨⟨by omega, by omega, hat⟩, ?_⟩; (try simp only [seval, go_sem]))
      (refine ldF.agg _ rfl (by first | exact .inl hr1 | exact hr1) ?_; (try simp only [seval, go_sem]))
      refine gO ?_
      (refine callT.give 90 2 2001 rfl rfl (fun bb => ?_)); simp only [seval, go_sem, giveSt, subV, subC, subE, subL]
      refine wD ?_
      refine tT ?_; refine callW 91 (hQ bb c lk f0 f1 g0 g1 m3 ev (.slice A1 ev.data.length k1) z3 hb hR3 hW3 hSt) rfl rfl rfl rfl ?_; rintro v4 z4 A4 hz4 ⟨p0, p1, q0, q1, m5, lk5, hw5, rfl, hR5⟩; (try simp only [seval, go_sem])
      (refine vsI.tf (Tf.open' 91 [92, 10, 11, 22, 23, 32, 33, 40, 41, 50, 51] rfl rfl rfl) ?_); simp only [seval, go_sem, zipL]
      (refine vsI.take' [5] 92 2 2001 rfl rfl rfl ?_); simp only [seval, go_sem, takeSt', unAt, unV, vals]; refine gO ?_
      refine ⟨⟨i + 1, p0, p1, q0, q1, lk5, m5, z4⟩, ⟨Zc.trans' hz3 hz4, by dsimp only; omega, by dsimp only; rw [List.take_add_one, hx]; unfold run at hrun ⊢; rw [List.foldl_append, hrun]; exact hw5, hR5⟩, by dsimp only; omega, ?_⟩
      exact lX
    · have hil : i = evs.length := by have := of_decide_eq_false hg; omega
      subst hil
      rw [List.take_length] at hrun
      refine gO ?_
      refine callT.tf (Tf.pack 60 [10, 11, 22, 23, 32, 33, 40, 41, 50, 51] (by simp only [popL, look, del, Nat.reduceEqDiff, reduceCtorEq, if_true, if_false, reduceIte, Nat.succ_ne_self]; exact rfl) (by simp only [look, Nat.reduceEqDiff, reduceCtorEq, if_true, if_false, reduceIte])) ?_
      dsimp only
      refine callT.frzA 60 rfl (RdA.wldB hR3) (fun z4 hz4 hP4 => ?_)
      dsimp only at hz4
      have hP4 := hP4 hz4
      simp only [seval, go_sem]
      refine tT ?_; refine callO 61 (copy_i c lk f0 f1 g0 g1 m3 z4 hP4 hW3) rfl rfl rfl ?_; rintro u z5 A' hz5 ⟨m5, rfl, rfl, hR5⟩; refine gO ?_
      refine FinV.frzA 61 rfl (RdA.wldB hR5) (fun z6 hz6 hP6 => ?_)
      (first|refine fN ?_|exact fZ)
      dsimp only at hz6
      rw [hrun]
      exact ⟨f0, f1, g0, g1, m5, lk, rfl, rfl, hP6 hz6⟩
theorem wldstep_i (Q : Wld → Evt → Prop) (hQ : StepP Q) (c : Cfg) (link : Int) (e0 e1 : End) (n0 n1 : List Msg) (m : WM) (ev : Evt) (v : Value) (z : Zc) (hP : WldP z e0 e1 n0 n1 m) (hW : WldI ⟨c, [e0, e1], [n0, n1], link⟩) (hv : By z ev.data v) (hS : Q ⟨c, [e0, e1], [n0, n1], link⟩ ev) : PSpec Tryz.prog 11 [wldV c link m, vEvt ev v] z (WldF c (step false ⟨c, [e0, e1], [n0, n1], link⟩ ev)) := by
  obtain ⟨A, k, rfl, hk, hB, hr⟩ := hv.form
  (refine pspec_enter Tryz.func11 ic11_ok fr11_ok Tryz.ntmps11 ?_; simp only [seval, go_sem, ic11, fr11])
  refine gO ?_
  (first | refine callT.frz 3 rfl rfl (fun b1 z1 hz1 hr1 => ?_) | refine callM.frz 3 rfl rfl (fun b1 z1 hz1 hr1 => ?_)); dsimp only at hz1; simp only [seval, go_sem, Go.Proofs.YtpblmlaahapohaaGreat.frz, subV, subC, subE, subL]
  have hS1 : ∀ i x, ([ev] : List Evt)[i]? = some x → Q (run false ⟨c, [e0, e1], [n0, n1], link⟩ (([ev] : List Evt).take i)) x := fun i x hx => by
    cases i with
    | zero => simp at hx; subst hx; exact hS
    | succ i => simp at hx
  refine tT ?_; refine callP (wldrun_i Q hQ c link e0 e1 n0 n1 m [ev] (some ⟨b1, 0, none⟩) 1 z1 (hP.mono hz1) hW ⟨_, _, _, rfl, Nat.le_refl _, Els.single (d := eRep) ⟨_, rfl, Sl.mono hz1 hv⟩, hr1⟩ (by simp) hS1) rfl rfl ?_; rintro u z2 hz2 ⟨f0, f1, g0, g1, m3, lk, hw, rfl, hP3⟩; refine gO ?_; (try simp only [seval, go_sem])
  (first|refine fN ?_|exact fZ)
  exact ⟨f0, f1, g0, g1, m3, lk, hw, rfl, hP3⟩
def ic4 : IC := (xR (xt (.mv (xb false)) 2 .done) (.seq (xR (xtM 0 15 (xtL 15 16 (xt (.bin .gtr (xr 16) (xi 1048576)) 17 .done))) (.cond (xr 17) (xR (xt (.mv (xb true)) 2 .done) .ret) .skip)) (xR (xtM 0 19 (xt (.call 9 [xr 19]) 20 (xtM 20 18 (xtE 18 0 21 (xtE 18 1 22 (xt (.alc 24 [zI, zI, zI, zI, zI]) 3 (xS 3 21 5 (xtM 22 4 .done)))))))) (xR (xtA 3 5 23 (xt (.call 10 [xr 23]) 24 (xt (.alc 31 [zI, zI, zI, zI, zI, zS, zS, zI]) 5 (xS 5 24 8 .done)))) (.seq (xR (xt (.mv (xi 0)) 6 .done) (.block 0 (.loop (.seq (xR (xtM 6 25 (xtM 4 26 (xtL 26 27 (xt (.bin .lss (xr 25) (xr 27)) 28 .done)))) (.cond (xr 28) .skip (.exit 0))) (.seq (.block 1 (xR (xlA 5 8 31 (xpM 4 32 (xpM 6 33 (xpI 32 33 5 34 (xlA 34 5 35 (xm (.call 11 [xr 31, xr 35]) 36 (xS 5 36 8 .done))))))) (.seq (xR (xtA 5 8 37 (xt (.call 14 [xr 37]) 38 (xtT 38 39 .done))) (.cond (xr 39) (xR (xt (.mv (xb false)) 2 .done) .ret) .skip)) (xR (xt (.mv (xi 0)) 7 .done) (.block 2 (.loop (.seq (xR (xtM 7 40 (xt (.bin .lss (xr 40) (xi 2)) 41 .done)) (.cond (xr 41) .skip (.exit 2))) (.seq (.block 3 (xR (xtF 5 5 44 (xtO 44 45 (xtM 7 46 (xt (.bin .sub (xi 1) (xr 46)) 47 (xtI 45 47 28 48 (xtF 48 17 49 (xtF 49 0 50 (xtO 50 51 (xtM 51 8 .done))))))))) (.seq (xR (xt (.mv (xi 0)) 9 .done) (.block 4 (.loop (.seq (xR (xtM 9 52 (xtF 5 6 53 (xtO 53 54 (xtM 7 55 (xt (.bin .sub (xi 1) (xr 55)) 56 (xtI 54 56 1 57 (xtO 57 58 (xtL 58 59 (xt (.bin .lss (xr 52) (xr 59)) 60 .done))))))))) (.cond (xr 60) .skip (.exit 4))) (.seq (.block 5 (xR (xtF 5 6 64 (xtO 64 65 (xtM 7 66 (xt (.bin .sub (xi 1) (xr 66)) 67 (xtI 65 67 1 68 (xtO 68 69 (xtM 9 70 (xtI 69 70 2 71 (xtF 71 1 72 (xtO 72 73 (xt (.call 15 [xr 73]) 74 (xtM 74 63 (xtE 63 0 75 (xtE 63 1 76 (xt (.alc 34 [zI, zI, zI, zB, zB, zI, zI, zI, zS]) 10 (xS 10 75 9 (xtM 76 11 .done))))))))))))))))) (xR (xtF 10 0 77 (xtO 77 78 (xt (.bin .eql (xr 78) (xi 4)) 79 .done))) (.cond (xr 79) (xQ (xtM 8 80 (xtF 10 7 81 (xtO 81 82 (xt (.bin .add (xr 80) (xr 82)) 83 (xtM 83 8 .done)))))) .skip)))) (xQ (xtM 9 61 (xt (.bin .add (xr 61) (xi 1)) 62 (xtM 62 9 .done))))))))) (.seq (xR (xt (.mv (xi 0)) 12 .done) (.block 6 (.loop (.seq (xR (xtM 12 84 (xtF 5 6 85 (xtO 85 86 (xtM 7 87 (xtI 86 87 1 88 (xtO 88 89 (xtL 89 90 (xt (.bin .lss (xr 84) (xr 90)) 91 .done)))))))) (.cond (xr 91) .skip (.exit 6))) (.seq (.block 7 (xR (xtF 5 6 95 (xtO 95 96 (xtM 7 97 (xtI 96 97 1 98 (xtO 98 99 (xtM 12 100 (xtI 99 100 2 101 (xtF 101 1 102 (xtO 102 103 (xt (.call 15 [xr 103]) 104 (xtM 104 94 (xtE 94 0 105 (xtE 94 1 106 (xt (.alc 34 [zI, zI, zI, zB, zB, zI, zI, zI, zS]) 13 (xS 13 105 9 (xtM 106 14 .done)))))))))))))))) (xR (xtF 13 0 107 (xtO 107 108 (xt (.bin .eql (xr 108) (xi 3)) 109 .done))) (.cond (xr 109) (xQ (xtM 8 110 (xt (.bin .add (xr 110) (xi 1)) 111 (xtM 111 8 .done)))) .skip)))) (xQ (xtM 12 92 (xt (.bin .add (xr 92) (xi 1)) 93 (xtM 93 12 .done))))))))) (xR (xtF 5 5 112 (xtO 112 113 (xtM 7 114 (xtI 113 114 28 115 (xtF 115 22 116 (xtF 116 0 117 (xtO 117 118 (xtM 8 119 (xt (.bin .neq (xr 118) (xr 119)) 120 .done))))))))) (.cond (xr 120) (xR (xt (.mv (xb false)) 2 .done) .ret) .skip)))))) (xQ (xtM 7 42 (xt (.bin .add (xr 42) (xi 1)) 43 (xtM 43 7 .done)))))))))))) (xQ (xtM 6 29 (xt (.bin .add (xr 29) (xi 1)) 30 (xtM 30 6 .done))))))))) (xR (xt (.call 16 []) 121 (xtM 121 2 .done)) .ret))))))
theorem ic4_ok : Tryz.f4.body.bind (trC Tryz.prog []) = some ic4 := by kernel_rfl
def fr4 : List FR := [(FR.t 2)]
theorem fr4_ok : fres Tryz.prog Tryz.f4.results.toList = some fr4 := by kernel_rfl
def ic3 : IC := (xR (xt (.mv (xb false)) 2 .done) (.seq (xR (xtM 0 10 (xtL 10 11 (xt (.bin .gtr (xr 11) (xi 1048576)) 12 .done))) (.cond (xr 12) (xR (xt (.mv (xb true)) 2 .done) .ret) .skip)) (xR (xtM 0 14 (xt (.call 9 [xr 14]) 15 (xtM 15 13 (xtE 13 0 16 (xtE 13 1 17 (xt (.alc 24 [zI, zI, zI, zI, zI]) 3 (xS 3 16 5 (xtM 17 4 .done)))))))) (xR (xtA 3 5 18 (xt (.call 10 [xr 18]) 19 (xt (.alc 31 [zI, zI, zI, zI, zI, zS, zS, zI]) 5 (xS 5 19 8 .done)))) (xR (xtM 0 20 (xtL 20 21 (xt (.cvi .u8 (xr 21)) 22 (xt (.bsl 5 1 1 [(.int .u8 0)] [(0, (xr 22))]) 23 (xt (.bld [zI, zI, zI, zB, zB, zI, zI, zI, zS] [(0, (1, (xi 3))), (7, (1, (xi 1))), (8, (1, (xr 23)))]) 24 (xt (.alc 34 [zI, zI, zI, zB, zB, zI, zI, zI, zS]) 6 (xS 6 24 9 .done))))))) (.seq (.join [] (xlA 5 8 25 (xlA 6 9 26 (.alt (xm (.call 12 [xr 26]) 27 (xp (.bld [zI, zI, zI, zI, zS] [(0, (1, (xi 11))), (1, (1, (xi 1))), (4, (1, (xr 27)))]) 28 (.alt (xm (.call 11 [xr 25, xr 28]) 29 (xm (.alc 31 [zI, zI, zI, zI, zI, zS, zS, zI]) 7 (xS 7 29 8 .done))) (xm (.alc 31 [zI, zI, zI, zI, zI, zS, zS, zI]) 7 (xm (.call 11 [xr 25, xr 28]) 29 (xS 7 29 8 .done)))))) (xm (.alc 31 [zI, zI, zI, zI, zI, zS, zS, zI]) 7 (xm (.call 12 [xr 26]) 27 (xp (.bld [zI, zI, zI, zI, zS] [(0, (1, (xi 11))), (1, (1, (xi 1))), (4, (1, (xr 27)))]) 28 (xm (.call 11 [xr 25, xr 28]) 29 (xS 7 29 8 .done))))))))) (xR (xtA 7 8 30 (xt (.bld [zI, zI, zI, zI, zS] [(0, (1, (xi 7))), (1, (1, (xi 1)))]) 31 (xt (.call 11 [xr 30, xr 31]) 32 (xt (.alc 31 [zI, zI, zI, zI, zI, zS, zS, zI]) 8 (xS 8 32 8 .done))))) (.seq (.join [] (xlA 5 8 33 (xp (.bld [zI, zI, zI, zI, zS] [(0, (1, (xi 6))), (1, (1, (xi 1)))]) 34 (xlA 6 9 36 (.alt (xm (.call 11 [xr 33, xr 34]) 35 (.alt (xm (.call 12 [xr 36]) 37 (xp (.bld [zI, zI, zI, zI, zS] [(0, (1, (xi 11))), (1, (1, (xi 1))), (4, (1, (xr 37)))]) 38 (.alt (xm (.call 11 [xr 35, xr 38]) 39 (xm (.alc 31 [zI, zI, zI, zI, zI, zS, zS, zI]) 9 (xS 9 39 8 .done))) (xm (.alc 31 [zI, zI, zI, zI, zI, zS, zS, zI]) 9 (xm (.call 11 [xr 35, xr 38]) 39 (xS 9 39 8 .done)))))) (xm (.alc 31 [zI, zI, zI, zI, zI, zS, zS, zI]) 9 (xm (.call 12 [xr 36]) 37 (xp (.bld [zI, zI, zI, zI, zS] [(0, (1, (xi 11))), (1, (1, (xi 1))), (4, (1, (xr 37)))]) 38 (xm (.call 11 [xr 35, xr 38]) 39 (xS 9 39 8 .done))))))) (xm (.alc 31 [zI, zI, zI, zI, zI, zS, zS, zI]) 9 (xm (.call 11 [xr 33, xr 34]) 35 (xm (.call 12 [xr 36]) 37 (xp (.bld [zI, zI, zI, zI, zS] [(0, (1, (xi 11))), (1, (1, (xi 1))), (4, (1, (xr 37)))]) 38 (xm (.call 11 [xr 35, xr 38]) 39 (xS 9 39 8 .done))))))))))) (xR (xtA 9 8 40 (xt (.bld [zI, zI, zI, zI, zS] [(0, (1, (xi 7))), (1, (1, (xi 1)))]) 41 (xt (.call 11 [xr 40, xr 41]) 42 (xS 9 42 8 .done)))) (xR (xtF 7 6 43 (xtO 43 44 (xt (.iad (xr 44) (xi 1) 1) 45 (xtO 45 46 (xtL 46 47 (xt (.bin .eql (xr 47) (xi 1)) 48 (xtM 48 49 (xG (.fad (xr 8) 5) 50 49 true (xG (.ld (xr 50) 1 false) 51 49 true (xG (.iad (xr 51) (xi 1) 28) 52 49 true (xG (.fad (xr 52) 22) 53 49 true (xG (.fad (xr 53) 3) 54 49 true (xG (.ld (xr 54) 1 false) 55 49 true (xt (.pick (xr 49) (xr 55) (xb false)) 56 (xtM 56 57 (xG (.fad (xr 8) 5) 58 57 true (xG (.ld (xr 58) 1 false) 59 57 true (xG (.iad (xr 59) (xi 1) 28) 60 57 true (xG (.fad (xr 60) 27) 61 57 true (xG (.ld (xr 61) 1 false) 62 57 true (xG (.len (xr 62)) 63 57 true (xG (.bin .eql (xr 63) (xi 0)) 64 57 true (xt (.pick (xr 57) (xr 64) (xb false)) 65 (xtM 65 66 (xG (.ld (xr 8) 8 true) 67 66 true (xG (.call 13 [xr 67]) 68 66 true (xt (.pick (xr 66) (xr 68) (xb false)) 69 (xtM 69 70 (xG (.fad (xr 9) 5) 71 70 true (xG (.ld (xr 71) 1 false) 72 70 true (xG (.iad (xr 72) (xi 1) 28) 73 70 true (xG (.fad (xr 73) 27) 74 70 true (xG (.ld (xr 74) 1 false) 75 70 true (xG (.len (xr 75)) 76 70 true (xG (.bin .eql (xr 76) (xi 1)) 77 70 true (xt (.pick (xr 70) (xr 77) (xb false)) 78 (xtM 78 79 (xG (.ld (xr 9) 8 true) 80 79 true (xG (.call 13 [xr 80]) 81 79 true (xG (.not (xr 81)) 82 79 true (xt (.pick (xr 79) (xr 82) (xb false)) 83 (xtM 83 2 .done)))))))))))))))))))))))))))))))))))))))))) .ret))))))))))
theorem ic3_ok : Tryz.f3.body.bind (trC Tryz.prog []) = some ic3 := by kernel_rfl
def fr3 : List FR := [(FR.t 2)]
theorem fr3_ok : fres Tryz.prog Tryz.f3.results.toList = some fr3 := by kernel_rfl
set_option maxHeartbeats 8000000
theorem CrdI.stepOk {w : Wld} (h : CrdI w) {ev : Evt} (he : EvC ev) : QC w ev := by
  refine ⟨⟨⟨he.1.1, by have := he.1.2; omega⟩, he.2.1, he.2.2, fun i hi m hm f hf => ⟨fun h2 => ?_, fun _ => ?_⟩⟩, h.mode, he.1.2⟩
  · have := h.mode; omega
  · obtain ⟨g, hg, _, hk, _⟩ := (h.msg i hi m hm).read
    rw [hg] at hf; injection hf with hf; subst hf; exact hk
structure LawJ (z0 : Zc) (c : Cfg) (n : Nat) (s : RunS) : Prop where
  z : z0 ≤ s.z
  i : s.i ≤ n
  P : WldP s.z s.e0 s.e1 s.n0 s.n1 s.m
  I : CrdI ⟨c, [s.e0, s.e1], [s.n0, s.n1], s.link⟩
theorem WldP.atE' {z : Zc} {e0 e1 : End} {n0 n1 : List Msg} {m : WM} (h : WldP z e0 e1 n0 n1 m) : IsAt m.E := h.E.isAt (by rw [endsC_len]; omega)
theorem WldP.atN' {z : Zc} {e0 e1 : End} {n0 n1 : List Msg} {m : WM} (h : WldP z e0 e1 n0 n1 m) : IsAt m.N := h.N.isAt (by simp)
theorem rdN_take {l : List Msg} {j : Nat} {x : Msg} {f : Frm} (h : l[j]? = some x) (hf : frmRead x.bytes = some f) : rdN (l.take (j + 1)) = rdN (l.take j) ++ [f] := by
  rw [List.take_add_one, h]
  unfold rdN
  rw [List.filterMap_append]
  simp [hf]
set_option maxHeartbeats 4000000
abbrev endV (e : End) (m : EndM) : Value := .agg #[.int .i64 e.tx.next, .int .i64 e.tx.acked, .slice m.fA e.tx.flight.length m.fC, .int .i64 e.tx.sent, .slice m.qA e.tx.queue.length m.qC, .bool e.tx.asks, .int .i64 e.tx.tries, .bool e.tx.held, .int .i64 e.tx.count, .bool e.tx.dead,
  .int .i64 e.rx.expect, .int .i64 e.rx.count, .int .i64 e.rx.join.len, .slice m.jA e.rx.join.got.length m.jC, .bool e.rx.again, .bool e.rx.busy, .bool e.rx.dead,
  .int .i64 e.ctx.hav, .slice m.cA e.ctx.queue.length m.cC, .int .i64 e.ctx.granted, .int .i64 e.ctx.sent, .bool e.ctx.dead,
  .int .i64 e.crx.out, .int .i64 e.crx.join.len, .slice m.kA e.crx.join.got.length m.kC, .bool e.crx.dead, .slice m.pA e.put.length m.pC, .slice m.gA e.got.length m.gC]
theorem wdead1 (e : End) (m : EndM) (z : Zc) : PSpec Tryz.prog 26 ([endV e m] ++ []) z fun u z' => u = .bool (endDead e) ∧ z = z' := by
  unfold endDead
  (refine pspec_enter Tryz.func26 ic26_ok fr26_ok Tryz.ntmps26 ?_; simp only [seval, go_sem, ic26, fr26])
  refine gO ?_
  cases h1 : e.tx.dead <;> cases h2 : e.rx.dead <;> cases h3 : e.ctx.dead <;> cases h4 : e.crx.dead
  all_goals (repeat (simp only [seval, go_sem, h1, h2, h3, h4]; refine gO ?_))
  all_goals (first|refine fN ?_|exact fZ)
  all_goals exact ⟨rfl, trivial⟩
theorem windex {e0 e1 : End} {n0 n1 : List Msg} {m : WM} {z : Zc} (hP : WldP z e0 e1 n0 n1 m) {fn : FuncId} (hok : callOk Tryz.prog fn = true) (hf : ∀ e m z, PSpec Tryz.prog fn ([endV e m] ++ []) z fun u z' => u = .bool (endDead e) ∧ z = z') :
    PSpec Tryz.prog 50 [.slice m.E 2 m.EC, .func (.func fn) #[] #[]] z fun v z' => (∃ i : Int, v = .int .i64 i ∧ decide (0 ≤ i) = (endDead e0 || endDead e1)) ∧ z = z' := by
  have hE : IsAt m.E := hP.E.isAt (by rw [endsC_len]; omega)
  (refine pspec_enter Tryz.func50 ic50_ok fr50_ok Tryz.ntmps50 ?_; simp only [seval, go_sem, ic50, fr50])
  refine gO ?_
  refine loopV.rounds 3 ?_
  rw [roundsV_succ]
  try simp only [show IntKind.i64.wrap 1 = 1 from rfl]
  refine gO ?_
  ((first | refine ⟨⟨by omega, hE⟩, ?_⟩ | refine ⟨hE, ?_⟩); (try simp only [seval, go_sem]))
  refine ldF.agg (sz := 28) _ rfl (by exact .inl (hP.E.sub 0 _ (fun i u hu => ends_get0 hu))) ?_
  simp only [seval, go_sem, endC]
  refine gO ?_
  ((try with_reducible refine othM.toT ?_); refine oth_call rfl hok rfl rfl (hf e0 m.m0 z) ?_; rintro _ _ - ⟨rfl, rfl⟩; refine gO ?_)
  cases h0 : endDead e0 with
  | true =>
    try simp only [seval, go_sem, h0]
    refine gO ?_
    simp only [seval, go_sem, roundK_ret]
    (first|refine fN ?_|exact fZ)
    simp_all
  | false =>
  try simp only [seval, go_sem, h0]
  refine gO ?_
  simp only [seval, go_sem, roundK_normal]
  rw [roundsV_succ]
  try simp only [show IntKind.i64.wrap 1 = 1 from rfl]
  refine gO ?_
  ((first | refine ⟨⟨by omega, hE⟩, ?_⟩ | refine ⟨hE, ?_⟩); (try simp only [seval, go_sem]))
  refine ldF.agg (sz := 28) _ rfl (by exact .inl (hP.E.sub 28 _ (fun i u hu => ends_get1 hu))) ?_
  simp only [seval, go_sem, endC]
  refine gO ?_
  ((try with_reducible refine othM.toT ?_); refine oth_call rfl hok rfl rfl (hf e1 m.m1 z) ?_; rintro _ _ - ⟨rfl, rfl⟩; refine gO ?_)
  cases h1 : endDead e1 with
  | true =>
    try simp only [seval, go_sem, h1]
    refine gO ?_
    simp only [seval, go_sem, roundK_ret]
    (first|refine fN ?_|exact fZ)
    simp_all
  | false =>
  try simp only [seval, go_sem, h1]
  refine gO ?_
  simp only [seval, go_sem, roundK_normal]
  rw [roundsV_succ]
  try simp only [show IntKind.i64.wrap 2 = 2 from rfl]
  refine gO ?_
  simp only [seval, go_sem, roundK_exit]
  (first|refine fN ?_|exact fZ)
  simp
theorem wlddead_i (c : Cfg) (link : Int) (e0 e1 : End) (n0 n1 : List Msg) (m : WM) (z : Zc) (hP : WldP z e0 e1 n0 n1 m) : PSpec Tryz.prog 13 [wldV c link m] z fun u z' => u = .bool (endDead e0 || endDead e1) ∧ z = z' := by
  have hco : PSpec Tryz.prog 25 [.slice m.E 2 m.EC, .func (.func 26) #[] #[]] z fun v z' => v = .bool (endDead e0 || endDead e1) ∧ z = z' := by
    (refine pspec_enter Tryz.func25 ic25_ok fr25_ok Tryz.ntmps25 ?_; simp only [seval, go_sem, ic25, fr25])
    refine gO ?_
    refine tT ?_; refine callP (windex hP (by kernel_rfl) wdead1) rfl rfl ?_; rintro _ _ - ⟨⟨i, rfl, hi⟩, rfl⟩; refine gO ?_
    (first|refine fN ?_|exact fZ)
    simp [← hi]
  (refine pspec_enter Tryz.func13 ic13_ok fr13_ok Tryz.ntmps13 ?_; simp only [seval, go_sem, ic13, fr13])
  refine gO ?_
  refine tT ?_; refine callP (hco) rfl rfl ?_; rintro _ _ - ⟨rfl, rfl⟩; refine gO ?_
  (first|refine fN ?_|exact fZ)
end Go.Proofs.YtpblmlaahapohaaGreat
