/- What happens to the first message, by numbers, by the reference. · A frame that is on its way is bent, by the reference. · Two ends move to another link, by the reference. · A step, whatever happens, by the reference. · What is drawn to happen, whatever is lost, bent, or moved. · What is drawn to happen to two ends, of one kind. · Codes of functions, group ImpT. -/
import Derived.Test.YtllafcmkppmdgaaGreatB14
import Derived.Test.YtllafcmkppmdgaaGreatB12
import Derived.Test.YtllafcmkppmdgaaGreatB6
import Derived.Test.YtllafcmkppmdgaaGreatB13
import Derived.Test.YtllafcmkppmdgaaGreatProg
namespace Go.Proofs.YtllafcmkppmdgaaGreat
open Go.RowKit
set_option linter.unusedVariables false
set_option linter.unusedSimpArgs false
set_option maxRecDepth 100000
set_option maxHeartbeats 1000000
def frameN0 (c : Cfg) (link : Int) (e0 e1 : End) (n0 n1 : List Msg) (f : Frm) : Wld := if f.kind = 1 ∨ f.kind = 2 then says ⟨c, [hearN1 c e0 f, e1], [n0, n1], link⟩ 0 (rxHear c e0.rx f).2.2 else ⟨c, [e0, e1], [n0, n1], link⟩
def frameN1 (c : Cfg) (link : Int) (e0 e1 : End) (n0 n1 : List Msg) (f : Frm) : Wld := if f.kind = 1 ∨ f.kind = 2 then says ⟨c, [e0, hearN1 c e1 f], [n0, n1], link⟩ 1 (rxHear c e1.rx f).2.2 else ⟨c, [e0, e1], [n0, n1], link⟩
theorem l9frame_n0 (c : Cfg) (link : Int) (e0 e1 : End) (n0 n1 : List Msg) (m : WM) (f : Frm) (x : Value) (z : Zc) (hR : WldR z e0 e1 n0 n1 m) (hI : EndI c e0) (hm : c.mode = 1) (hf : frmOk f = true) (hx : By z f.data x) (h0 : n0.length ≤ 30) (h1 : n1.length ≤ 30) :
  Spec Tryz.prog 128 [wldV c link m, .int .i64 0, vFrm f x] z (wldA e0 e1 n0 n1 m) (WldH c (frameN0 c link e0 e1 n0 n1 f)) := by
 obtain ⟨Ax, kx, rfl, hkx, hBx, hrx⟩ := hx.form
 have hkk := frmKind hf
 unfold frameN0
 obtain ⟨kind, seq, ack, poll, fin, say, seg, len, data⟩ := f
 obtain ⟨mode, win, mps, mtu, tri⟩ := c
 dsimp only at *
 subst hm
 refine eB k128 ?_
 rcases hkk with rfl | rfl | rfl | rfl
 ·try simp only [seval, go_sem]
  refine gO ?_
  refine tT ?_; refine callW 1000 (l9num0 ⟨1, win, mps, mtu, tri⟩ link e0 e1 n0 n1 m ⟨1, seq, ack, poll, fin, say, seg, len, data⟩ (.slice Ax data.length kx) z hR hI hf (.inl rfl) hx h0 h1) rfl rfl rfl rfl ?_; rintro u z1 A' hz1 ⟨f0, f1, g0, g1, m', hw1, hw2, hw3, rfl, rfl, hR3⟩; refine gO ?_
  refine fQ ?_
  exact ⟨f0, f1, g0, g1, m', hw1, hw2, hw3, rfl, rfl, hR3⟩
 ·try simp only [seval, go_sem]
  refine gO ?_
  refine tT ?_; refine callW 1000 (l9num0 ⟨1, win, mps, mtu, tri⟩ link e0 e1 n0 n1 m ⟨2, seq, ack, poll, fin, say, seg, len, data⟩ (.slice Ax data.length kx) z hR hI hf (.inr rfl) hx h0 h1) rfl rfl rfl rfl ?_; rintro u z1 A' hz1 ⟨f0, f1, g0, g1, m', hw1, hw2, hw3, rfl, rfl, hR3⟩; refine gO ?_
  refine fQ ?_
  exact ⟨f0, f1, g0, g1, m', hw1, hw2, hw3, rfl, rfl, hR3⟩
 ·try simp only [seval, go_sem]
  refine gO ?_
  refine fQ ?_
  exact WldH.mk hR
 ·try simp only [seval, go_sem]
  refine gO ?_
  refine fQ ?_
  exact WldH.mk hR
theorem l9frame_n1 (c : Cfg) (link : Int) (e0 e1 : End) (n0 n1 : List Msg) (m : WM) (f : Frm) (x : Value) (z : Zc) (hR : WldR z e0 e1 n0 n1 m) (hI : EndI c e1) (hm : c.mode = 1) (hf : frmOk f = true) (hx : By z f.data x) (h0 : n0.length ≤ 30) (h1 : n1.length ≤ 30) :
  Spec Tryz.prog 128 [wldV c link m, .int .i64 1, vFrm f x] z (wldA e0 e1 n0 n1 m) (WldH c (frameN1 c link e0 e1 n0 n1 f)) := by
 obtain ⟨Ax, kx, rfl, hkx, hBx, hrx⟩ := hx.form
 have hkk := frmKind hf
 unfold frameN1
 obtain ⟨kind, seq, ack, poll, fin, say, seg, len, data⟩ := f
 obtain ⟨mode, win, mps, mtu, tri⟩ := c
 dsimp only at *
 subst hm
 refine eB k128 ?_
 rcases hkk with rfl | rfl | rfl | rfl
 ·try simp only [seval, go_sem]
  refine gO ?_
  refine tT ?_; refine callW 1000 (l9num1 ⟨1, win, mps, mtu, tri⟩ link e0 e1 n0 n1 m ⟨1, seq, ack, poll, fin, say, seg, len, data⟩ (.slice Ax data.length kx) z hR hI hf (.inl rfl) hx h0 h1) rfl rfl rfl rfl ?_; rintro u z1 A' hz1 ⟨f0, f1, g0, g1, m', hw1, hw2, hw3, rfl, rfl, hR3⟩; refine gO ?_
  refine fQ ?_
  exact ⟨f0, f1, g0, g1, m', hw1, hw2, hw3, rfl, rfl, hR3⟩
 ·try simp only [seval, go_sem]
  refine gO ?_
  refine tT ?_; refine callW 1000 (l9num1 ⟨1, win, mps, mtu, tri⟩ link e0 e1 n0 n1 m ⟨2, seq, ack, poll, fin, say, seg, len, data⟩ (.slice Ax data.length kx) z hR hI hf (.inr rfl) hx h0 h1) rfl rfl rfl rfl ?_; rintro u z1 A' hz1 ⟨f0, f1, g0, g1, m', hw1, hw2, hw3, rfl, rfl, hR3⟩; refine gO ?_
  refine fQ ?_
  exact ⟨f0, f1, g0, g1, m', hw1, hw2, hw3, rfl, rfl, hR3⟩
 ·try simp only [seval, go_sem]
  refine gO ?_
  refine fQ ?_
  exact WldH.mk hR
 ·try simp only [seval, go_sem]
  refine gO ?_
  refine fQ ?_
  exact WldH.mk hR
def hear1N0 (c : Cfg) (link : Int) (e0 e1 : End) (n0 n1 : List Msg) : Wld := match n0 with
 | [] => ⟨c, [e0, e1], [n0, n1], link⟩
 | m :: l => match frmRead m.bytes with
  | none => ⟨c, [e0, e1], [l, n1], link⟩
  | some f => frameN0 c link e0 e1 l n1 f
def hear1N1 (c : Cfg) (link : Int) (e0 e1 : End) (n0 n1 : List Msg) : Wld := match n1 with
 | [] => ⟨c, [e0, e1], [n0, n1], link⟩
 | m :: l => match frmRead m.bytes with
  | none => ⟨c, [e0, e1], [n0, l], link⟩
  | some f => frameN1 c link e0 e1 n0 l f
theorem l9net_n0 (c : Cfg) (link : Int) (e0 e1 : End) (n0 n1 : List Msg) (m : WM) (ev : Evt) (v : Value) (z : Zc) (hv : By z ev.data v) (hR : WldR z e0 e1 n0 n1 m) (hI : EndI c e0) (hN : NetI n0) (hNw : NetI n1) (hm : c.mode = 1) (hw : ev.who = 0) (hk : ev.kind = 7 ∨ ev.kind = 8) :
  Spec Tryz.prog 93 [wldV c link m, vEvt ev v] z (wldA e0 e1 n0 n1 m) (WldH c (if ev.kind = 7 then hear1N0 c link e0 e1 n0 n1 else ⟨c, [e0, e1], [n0, n1].set 0 (n0.drop 1), link⟩)) := by
 obtain ⟨kind, who, at_, vv, data⟩ := ev
 dsimp only at *
 subst hw
 obtain ⟨Av, kv, rfl, hkv, hBv, hrv⟩ := hv.form
 refine eL kyR k93 ?_
 refine vsI.atR 11 rfl fun hA => ?_
 have hA := hA (by omega)
 refine gO ?_
 ((first | refine ⟨⟨by omega, hA⟩, ?_⟩ | refine ⟨hA, ?_⟩); (try simp only [seval, go_sem]))
 (refine ldF.one _ (RdS.cell 11 rfl rfl) ?_; refine gO ?_)
 (with_reducible refine condI.split (fun hg => ?_) (fun hg => ?_) <;> (try simp only [hg]) <;> (try simp only [seval, go_sem]))
 ·have h0 : n0 = [] := List.eq_nil_of_length_eq_zero (by simp at hg; simp [hg])
  refine gO ?_
  refine wS ?_
  subst h0
  refine ⟨e0, e1, [], n1, m, ?_, ?_, ?_, ?_, rfl, hR⟩ <;> rcases hk with rfl | rfl <;> rfl
 ·obtain ⟨msg, rest, hne⟩ : ∃ msg rest, n0 = msg :: rest := by
   cases hx : n0 with
   | nil => rw [hx] at hg; simp at hg
   | cons a b => exact ⟨a, b, rfl⟩
  have h15 : msg.bytes.length ≤ 15 := hN.2 msg (by rw [hne]; simp)
  have hn30 := hN.1
  have hnw30 := hNw.1
  have hr30 : rest.length ≤ 30 := by rw [hne] at hn30; simp at hn30; omega
  rcases hk with rfl | rfl
  ·simp only [seval, go_sem]
   refine gO ?_
   refine wT ?_
   refine tT ?_; refine callW 999 (l9first0 c link e0 e1 n0 n1 msg rest m z hR hne (by omega)) rfl rfl rfl rfl ?_; rintro u z1 A' hz1 ⟨m1, A1, k1, rfl, rfl, hR1, hb1⟩; refine gO ?_
   have hc := frmRead_s msg.bytes _ z1 hb1 (by omega)
   have hR1' : WldR z1 e0 e1 rest n1 m1 := hR1
   cases hrd : frmRead msg.bytes with
   | none =>
    rw [hrd] at hc
    refine tT ?_; refine callP (hc) rfl rfl ?_; rintro u z2 hz2 rfl; refine gO ?_
    refine fP ?_
    rw [show hear1N0 c link e0 e1 n0 n1 = ⟨c, [e0, e1], [rest, n1], link⟩ by unfold hear1N0; rw [hne]; simp only [hrd]]
    exact WldH.mk (WldR.up hz2 hR1')
   | some f =>
    rw [hrd] at hc
    have hf := (frmRead_ok hrd).1
    refine tT ?_; refine callP (hc) rfl rfl ?_; rintro u z2 hz2 ⟨_, rfl, Ax, kx, csx, rfl, hkx, hex, hrx⟩; refine gO ?_
    refine tT ?_; refine callW 999 (l9frame_n0 c link e0 e1 rest n1 m1 f (.slice Ax f.data.length kx) z2 (WldR.up hz2 hR1') hI hm hf ⟨Ax, kx, csx, rfl, hkx, hex, hrx⟩ (by omega) (by omega)) rfl rfl rfl rfl ?_; rintro v z3 A' hz3 ⟨f0, f1, g0, g1, m', hw1, hw2, hw3, rfl, rfl, hR3⟩; refine gO ?_
    refine fP ?_
    rw [show hear1N0 c link e0 e1 n0 n1 = frameN0 c link e0 e1 rest n1 f by unfold hear1N0; rw [hne]; simp only [hrd]]
    exact ⟨f0, f1, g0, g1, m', hw1, hw2, hw3, rfl, rfl, hR3⟩
  ·simp only [seval, go_sem]
   refine gO ?_
   refine wT ?_
   refine tT ?_; refine callW 999 (l9first0 c link e0 e1 n0 n1 msg rest m z hR hne (by omega)) rfl rfl rfl rfl ?_; rintro u z1 A' hz1 ⟨m1, A1, k1, rfl, rfl, hR1, hb1⟩; refine gO ?_
   refine fP ?_
   rw [hne]
   exact ⟨_, _, _, _, m1, rfl, rfl, rfl, rfl, rfl, hR1⟩
theorem l9net_n1 (c : Cfg) (link : Int) (e0 e1 : End) (n0 n1 : List Msg) (m : WM) (ev : Evt) (v : Value) (z : Zc) (hv : By z ev.data v) (hR : WldR z e0 e1 n0 n1 m) (hI : EndI c e1) (hN : NetI n1) (hNw : NetI n0) (hm : c.mode = 1) (hw : ev.who = 1) (hk : ev.kind = 7 ∨ ev.kind = 8) :
  Spec Tryz.prog 93 [wldV c link m, vEvt ev v] z (wldA e0 e1 n0 n1 m) (WldH c (if ev.kind = 7 then hear1N1 c link e0 e1 n0 n1 else ⟨c, [e0, e1], [n0, n1].set 1 (n1.drop 1), link⟩)) := by
 obtain ⟨kind, who, at_, vv, data⟩ := ev
 dsimp only at *
 subst hw
 obtain ⟨Av, kv, rfl, hkv, hBv, hrv⟩ := hv.form
 refine eL kyR k93 ?_
 refine vsI.atR 11 rfl fun hA => ?_
 have hA := hA (by omega)
 refine gO ?_
 ((first | refine ⟨⟨by omega, hA⟩, ?_⟩ | refine ⟨hA, ?_⟩); (try simp only [seval, go_sem]))
 (refine ldF.one _ (RdS.cell 11 rfl rfl) ?_; refine gO ?_)
 (with_reducible refine condI.split (fun hg => ?_) (fun hg => ?_) <;> (try simp only [hg]) <;> (try simp only [seval, go_sem]))
 ·have h0 : n1 = [] := List.eq_nil_of_length_eq_zero (by simp at hg; simp [hg])
  refine gO ?_
  refine wS ?_
  subst h0
  refine ⟨e0, e1, n0, [], m, ?_, ?_, ?_, ?_, rfl, hR⟩ <;> rcases hk with rfl | rfl <;> rfl
 ·obtain ⟨msg, rest, hne⟩ : ∃ msg rest, n1 = msg :: rest := by
   cases hx : n1 with
   | nil => rw [hx] at hg; simp at hg
   | cons a b => exact ⟨a, b, rfl⟩
  have h15 : msg.bytes.length ≤ 15 := hN.2 msg (by rw [hne]; simp)
  have hn30 := hN.1
  have hnw30 := hNw.1
  have hr30 : rest.length ≤ 30 := by rw [hne] at hn30; simp at hn30; omega
  rcases hk with rfl | rfl
  ·simp only [seval, go_sem]
   refine gO ?_
   refine wT ?_
   refine tT ?_; refine callW 999 (l9first1 c link e0 e1 n0 n1 msg rest m z hR hne (by omega)) rfl rfl rfl rfl ?_; rintro u z1 A' hz1 ⟨m1, A1, k1, rfl, rfl, hR1, hb1⟩; refine gO ?_
   have hc := frmRead_s msg.bytes _ z1 hb1 (by omega)
   have hR1' : WldR z1 e0 e1 n0 rest m1 := hR1
   cases hrd : frmRead msg.bytes with
   | none =>
    rw [hrd] at hc
    refine tT ?_; refine callP (hc) rfl rfl ?_; rintro u z2 hz2 rfl; refine gO ?_
    refine fP ?_
    rw [show hear1N1 c link e0 e1 n0 n1 = ⟨c, [e0, e1], [n0, rest], link⟩ by unfold hear1N1; rw [hne]; simp only [hrd]]
    exact WldH.mk (WldR.up hz2 hR1')
   | some f =>
    rw [hrd] at hc
    have hf := (frmRead_ok hrd).1
    refine tT ?_; refine callP (hc) rfl rfl ?_; rintro u z2 hz2 ⟨_, rfl, Ax, kx, csx, rfl, hkx, hex, hrx⟩; refine gO ?_
    refine tT ?_; refine callW 999 (l9frame_n1 c link e0 e1 n0 rest m1 f (.slice Ax f.data.length kx) z2 (WldR.up hz2 hR1') hI hm hf ⟨Ax, kx, csx, rfl, hkx, hex, hrx⟩ (by omega) (by omega)) rfl rfl rfl rfl ?_; rintro v z3 A' hz3 ⟨f0, f1, g0, g1, m', hw1, hw2, hw3, rfl, rfl, hR3⟩; refine gO ?_
    refine fP ?_
    rw [show hear1N1 c link e0 e1 n0 n1 = frameN1 c link e0 e1 n0 rest f by unfold hear1N1; rw [hne]; simp only [hrd]]
    exact ⟨f0, f1, g0, g1, m', hw1, hw2, hw3, rfl, rfl, hR3⟩
  ·simp only [seval, go_sem]
   refine gO ?_
   refine wT ?_
   refine tT ?_; refine callW 999 (l9first1 c link e0 e1 n0 n1 msg rest m z hR hne (by omega)) rfl rfl rfl rfl ?_; rintro u z1 A' hz1 ⟨m1, A1, k1, rfl, rfl, hR1, hb1⟩; refine gO ?_
   refine fP ?_
   rw [hne]
   exact ⟨_, _, _, _, m1, rfl, rfl, rfl, rfl, rfl, hR1⟩
theorem RdS.part {z : Zc} {L : Ents} {A : Option Addr} {o : Nat} {us : List Value} (k : Nat) {e sz n c : Nat} {cs : List Value} (hk : look k L = some (.own (rowA e sz (.slice A n c) n cs))) (h : ∀ i u, us[i]? = some u → cs[o + i]? = some u) : RdS z L A o us := .inr ⟨k, e, sz, n, c, cs, hk, h⟩
theorem bc_get {l : List Int} {i : Nat} (h : i < l.length) : (bc l)[i]? = some (.int .u8 (l.getD i 0)) := by
 simp [bc, List.getD, h]
theorem bc_set {l : List Int} {i : Nat} {x : Int} (h : i < l.length) : putV (bc l) i [.int .u8 x] = bc (l.set i x) := by
 simp only [putV, bc, ← List.map_take, ← List.map_drop, List.length_singleton, List.singleton_append]
 rw [List.set_eq_take_append_cons_drop, if_pos h]
 simp
theorem bend_bits {l : List Int} {i : Nat} {v : Int} (hb : Bys l) (h : i < l.length) (hv : 1 ≤ v ∧ v ≤ 255) : bits .xor .u8 (l.getD i 0) (IntKind.u8.wrap v) = (((l.getD i 0).toNat ^^^ v.toNat : Nat) : Int) := by
 have hx : 0 ≤ l.getD i 0 ∧ l.getD i 0 ≤ 255 := by
  have := hb (l.getD i 0) (by simp [List.getD, h])
  exact this
 generalize l.getD i 0 = x at hx
 obtain ⟨a, rfl⟩ := Int.eq_ofNat_of_zero_le hx.1
 obtain ⟨b, rfl⟩ := Int.eq_ofNat_of_zero_le (show 0 ≤ v by omega)
 rw [show IntKind.u8.wrap (b : Int) = (b : Int) by rw [IntKind.wrap_u8]; omega, bits_xor_u8 a b (by omega) (by omega)]
 rfl
theorem bend_bys {l : List Int} {i : Nat} {v : Int} (hb : Bys l) (h : i < l.length) (hv : 1 ≤ v ∧ v ≤ 255) : Bys (l.set i (((l.getD i 0).toNat ^^^ v.toNat : Nat) : Int)) := by
 have hx : 0 ≤ l.getD i 0 ∧ l.getD i 0 ≤ 255 := by
  have := hb (l.getD i 0) (by simp [List.getD, h])
  exact this
 intro y hy
 rcases List.mem_or_eq_of_mem_set hy with hy | rfl
 ·exact hb y hy
 ·have := Nat.xor_lt_two_pow (n := 8) (x := (l.getD i 0).toNat) (y := v.toNat) (by omega) (by omega)
  omega
theorem starL_tie {w : World} {A : Asrt} {As : List Asrt} {F : Nat → Prop} (h : (starL [A, starL As]).holds w F) : (starL (A :: As)).holds w F := by
 obtain ⟨F1, F2, h1, h2, hd, hF⟩ := h
 exact ⟨F1, F2, h1, starA_emp h2, hd, hF⟩
def bendL (l : List Msg) (a v : Int) : List Msg := match l with
 | [] => []
 | x :: l => bendM x a v :: l
theorem bendL_cons (x : Msg) (l : List Msg) (a v : Int) : bendL (x :: l) a v = bendM x a v :: l := rfl
theorem l9bend0 (c : Cfg) (link : Int) (e0 e1 : End) (n0 n1 : List Msg) (m : WM) (ev : Evt) (v : Value) (z : Zc) (hv : By z ev.data v) (hR : WldR z e0 e1 n0 n1 m) (hN : NetI n0) (hw : ev.who = 0) (hk : ev.kind = 9) :
  Spec Tryz.prog 93 [wldV c link m, vEvt ev v] z (wldA e0 e1 n0 n1 m) (WldH c ⟨c, [e0, e1], [n0, n1].set 0 (bendL n0 ev.at_ ev.v), link⟩) := by
 obtain ⟨kind, who, at_, vv, data⟩ := ev
 dsimp only at *
 subst hw
 subst hk
 obtain ⟨Av, kv, rfl, hkv, hBv, hrv⟩ := hv.form
 obtain ⟨E, EC, N, NC, m0, m1, ⟨A0, C0, ms0⟩, ⟨A1, C1, ms1⟩⟩ := m
 have hok := hR.n0.ok
 have hcap := hR.n0.cap
 dsimp only at hok hcap
 by_cases hP : ∃ x l, n0 = x :: l ∧ x.bent = false ∧ (0 ≤ at_ ∧ at_ < x.bytes.length) ∧ 1 ≤ vv ∧ vv ≤ 255
 ·obtain ⟨⟨bent, bytes⟩, rest, rfl, hbn, hat, hvv⟩ := hP
  dsimp only at hbn hat
  subst hbn
  cases ms0 with
  | nil => exact hok.elim
  | cons x ms =>
   obtain ⟨a, cb⟩ := x
   obtain ⟨⟨hb1, hb2⟩, hok2⟩ := hok
   dsimp only at hb1 hb2
   have h15 : bytes.length ≤ 15 := hN.2 ⟨false, bytes⟩ (by simp)
   obtain ⟨i, rfl⟩ := Int.eq_ofNat_of_zero_le hat.1
   have hi : i < bytes.length := by omega
   have hbe : bysA bytes a cb = rowA tyB 1 (.slice a bytes.length cb) bytes.length (bc bytes) := by unfold bysA; rw [if_neg (List.ne_nil_of_length_pos (by omega))]
   refine eL kyR k93 ?_
   refine vsI.atR 11 rfl fun hA => ?_
   have hA := hA (by omega)
   refine vsI.atR 40 rfl fun hA2 => ?_
   have hA2 := hA2 (by simp)
   refine vsI.tf (Tf.split 41 46 rfl rfl rfl) ?_
   dsimp only
   simp only [hbe]
   refine vsI.atR 46 rfl fun hA3 => ?_
   have hA3 := hA3 (by omega)
   refine gO ?_
   ((first | refine ⟨⟨by omega, hA⟩, ?_⟩ | refine ⟨hA, ?_⟩); (try simp only [seval, go_sem]))
   (refine ldF.one _ (RdS.cell 11 rfl rfl) ?_; refine gO ?_)
   (with_reducible refine condI.split (fun hg => ?_) (fun hg => ?_) <;> (try simp only [hg]) <;> (try simp only [seval, go_sem]))
   ·exfalso
    simp at hg
    omega
   refine gO ?_
   ((first | refine ⟨⟨by omega, hA⟩, ?_⟩ | refine ⟨hA, ?_⟩); (try simp only [seval, go_sem]))
   (refine ldF.one _ (RdS.cell 11 rfl rfl) ?_; refine gO ?_)
   refine ⟨⟨by simp, hA2⟩, ?_⟩
   refine ldF.agg (sz := 2) [.bool false, .slice a bytes.length cb] rfl (RdS.part 40 rfl (fun i u hu => by rw [Nat.zero_add]; match i, hu with | 0, hu => exact hu | 1, hu => exact hu)) ?_
   refine gO ?_
   have w1 : IntKind.i64.wrap ((bytes.length : Int) - 1) = (bytes.length : Int) - 1 := wrap_in (by omega) (by omega)
   have i1 : inB (i : Int) 0 ((bytes.length : Int) - 1) = true := inB_iff.2 ⟨by omega, by omega⟩
   have i2 : inB vv 1 255 = true := inB_iff.2 hvv
   try simp only [w1]
   refine tT ?_; refine callP (in_s (i : Int) 0 ((bytes.length : Int) - 1) z) rfl rfl ?_; rintro _ _ - ⟨rfl, rfl⟩; refine gO ?_
   simp only [i1]
   refine gO ?_
   refine tT ?_; refine callP (in_s vv 1 255 z) rfl rfl ?_; rintro _ _ - ⟨rfl, rfl⟩; refine gO ?_
   simp only [i2]
   refine gO ?_
   refine ⟨⟨by omega, by omega, hA3⟩, ?_⟩
   (try simp only [seval, go_sem])
   simp only [Nat.mul_one]
   refine ldF.one _ (RdS.cell 46 rfl (bc_get hi)) ?_
   refine gO ?_
   refine ⟨⟨by omega, by omega, hA3⟩, ?_⟩
   (try simp only [seval, go_sem])
   simp only [Nat.mul_one]
   rw [bend_bits hb2 hi hvv]
   refine stoV_row 46 rfl rfl rfl rfl rfl rfl rfl (by simp only [bc, List.length_map, List.length_singleton]; omega) ?_
   rw [bc_set hi]
   refine gO ?_
   ((first | refine ⟨⟨by omega, hA⟩, ?_⟩ | refine ⟨hA, ?_⟩); (try simp only [seval, go_sem]))
   (refine ldF.one _ (RdS.cell 11 rfl rfl) ?_; refine gO ?_)
   refine ⟨⟨by simp, hA2⟩, ?_⟩
   refine stoV_row 40 rfl rfl rfl rfl rfl rfl rfl (by simp [netV]) ?_
   simp only [seval, go_sem, putV]
   refine gO ?_
   (refine FinV.pk 97 [46, 41] ?_); dsimp only
   refine FinV.tf (Tf.own 97 rfl rfl (fun w F h => starL_tie h)) ?_
   dsimp only
   (refine FinV.pk 999 [10, 11, 20, 21, 22, 23, 30, 31, 32, 33, 40, 97, 50, 51] ?_); dsimp only
   refine fP ?_
   have hbm : bendM ⟨false, bytes⟩ (i : Int) vv = ⟨true, bytes.set i (((bytes.getD i 0).toNat ^^^ vv.toNat : Nat) : Int)⟩ := by unfold bendM; rw [if_pos ⟨by omega, by exact hat.2, hvv.1, hvv.2, rfl⟩]; rfl
   rw [bendL_cons, hbm]
   have hbe' : bysA (bytes.set i (((bytes.getD i 0).toNat ^^^ vv.toNat : Nat) : Int)) a cb = rowA tyB 1 (.slice a bytes.length cb) bytes.length (bc (bytes.set i (((bytes.getD i 0).toNat ^^^ vv.toNat : Nat) : Int))) := by
    unfold bysA
    rw [if_neg (List.ne_nil_of_length_pos (by rw [List.length_set]; omega)), List.length_set]
   refine ⟨e0, e1, _, _, ⟨E, EC, N, NC, m0, m1, ⟨A0, C0, (a, cb) :: ms⟩, ⟨A1, C1, ms1⟩⟩, rfl, rfl, rfl, rfl, ?_, ?_⟩
   ·simp only [wldA, netB, netV, hbe', List.length_set]
    rfl
   ·have hbx := bend_bys hb2 hi hvv
    exact ⟨hR.e0, hR.e1, ⟨⟨⟨by rw [List.length_set]; exact hb1, hbx⟩, hok2⟩, hcap⟩, hR.n1⟩
 ·have hsame : ∀ x l, n0 = x :: l → bendM x at_ vv = x := fun x l e => by
   unfold bendM
   rw [if_neg (fun h => hP ⟨x, l, e, h.2.2.2.2, ⟨h.1, h.2.1⟩, h.2.2.1, h.2.2.2.1⟩)]
  refine eL kyR k93 ?_
  refine vsI.atR 11 rfl fun hA => ?_
  have hA := hA (by omega)
  refine vsI.atR 40 rfl fun hA2 => ?_
  refine gO ?_
  ((first | refine ⟨⟨by omega, hA⟩, ?_⟩ | refine ⟨hA, ?_⟩); (try simp only [seval, go_sem]))
  (refine ldF.one _ (RdS.cell 11 rfl rfl) ?_; refine gO ?_)
  (with_reducible refine condI.split (fun hg => ?_) (fun hg => ?_) <;> (try simp only [hg]) <;> (try simp only [seval, go_sem]))
  ·have h0 : n0 = [] := List.eq_nil_of_length_eq_zero (by simp at hg; simp [hg])
   refine gO ?_
   refine wS ?_
   subst h0
   exact WldH.mk hR
  ·cases n0 with
   | nil => simp at hg
   | cons msg rest =>
    obtain ⟨bent, bytes⟩ := msg
    have h15 : bytes.length ≤ 15 := hN.2 ⟨bent, bytes⟩ (by simp)
    have hA2 := hA2 (by simp)
    cases ms0 with
    | nil => exact hok.elim
    | cons x ms =>
     obtain ⟨a, cb⟩ := x
     have hsm := hsame _ _ rfl
     have w1 : IntKind.i64.wrap ((bytes.length : Int) - 1) = (bytes.length : Int) - 1 := wrap_in (by omega) (by omega)
     refine gO ?_
     ((first | refine ⟨⟨by omega, hA⟩, ?_⟩ | refine ⟨hA, ?_⟩); (try simp only [seval, go_sem]))
     (refine ldF.one _ (RdS.cell 11 rfl rfl) ?_; refine gO ?_)
     refine ⟨⟨by simp, hA2⟩, ?_⟩
     refine ldF.agg (sz := 2) [.bool bent, .slice a bytes.length cb] rfl (RdS.part 40 rfl (fun i u hu => by rw [Nat.zero_add]; match i, hu with | 0, hu => exact hu | 1, hu => exact hu)) ?_
     cases bent
     ·refine gO ?_
      try simp only [w1]
      refine tT ?_; refine callP (in_s at_ 0 ((bytes.length : Int) - 1) z) rfl rfl ?_; rintro _ _ - ⟨rfl, rfl⟩; refine gO ?_
      cases h1 : inB at_ 0 ((bytes.length : Int) - 1)
      ·refine gO ?_
       refine wS ?_
       rw [bendL_cons, hsm]
       exact WldH.mk hR
      ·refine gO ?_
       refine tT ?_; refine callP (in_s vv 1 255 z) rfl rfl ?_; rintro _ _ - ⟨rfl, rfl⟩; refine gO ?_
       cases h2 : inB vv 1 255
       ·refine gO ?_
        refine wS ?_
        rw [bendL_cons, hsm]
        exact WldH.mk hR
       ·exfalso
        rw [inB_iff] at h1 h2
        exact hP ⟨⟨false, bytes⟩, rest, rfl, rfl, ⟨h1.1, by have := h1.2; show at_ < (bytes.length : Int); omega⟩, h2.1, h2.2⟩
     ·refine gO ?_
      refine wS ?_
      rw [bendL_cons, hsm]
      exact WldH.mk hR
theorem l9bend1 (c : Cfg) (link : Int) (e0 e1 : End) (n0 n1 : List Msg) (m : WM) (ev : Evt) (v : Value) (z : Zc) (hv : By z ev.data v) (hR : WldR z e0 e1 n0 n1 m) (hN : NetI n1) (hw : ev.who = 1) (hk : ev.kind = 9) :
  Spec Tryz.prog 93 [wldV c link m, vEvt ev v] z (wldA e0 e1 n0 n1 m) (WldH c ⟨c, [e0, e1], [n0, n1].set 1 (bendL n1 ev.at_ ev.v), link⟩) := by
 obtain ⟨kind, who, at_, vv, data⟩ := ev
 dsimp only at *
 subst hw
 subst hk
 obtain ⟨Av, kv, rfl, hkv, hBv, hrv⟩ := hv.form
 obtain ⟨E, EC, N, NC, m0, m1, ⟨A0, C0, ms0⟩, ⟨A1, C1, ms1⟩⟩ := m
 have hok := hR.n1.ok
 have hcap := hR.n1.cap
 dsimp only at hok hcap
 by_cases hP : ∃ x l, n1 = x :: l ∧ x.bent = false ∧ (0 ≤ at_ ∧ at_ < x.bytes.length) ∧ 1 ≤ vv ∧ vv ≤ 255
 ·obtain ⟨⟨bent, bytes⟩, rest, rfl, hbn, hat, hvv⟩ := hP
  dsimp only at hbn hat
  subst hbn
  cases ms1 with
  | nil => exact hok.elim
  | cons x ms =>
   obtain ⟨a, cb⟩ := x
   obtain ⟨⟨hb1, hb2⟩, hok2⟩ := hok
   dsimp only at hb1 hb2
   have h15 : bytes.length ≤ 15 := hN.2 ⟨false, bytes⟩ (by simp)
   obtain ⟨i, rfl⟩ := Int.eq_ofNat_of_zero_le hat.1
   have hi : i < bytes.length := by omega
   have hbe : bysA bytes a cb = rowA tyB 1 (.slice a bytes.length cb) bytes.length (bc bytes) := by unfold bysA; rw [if_neg (List.ne_nil_of_length_pos (by omega))]
   refine eL kyR k93 ?_
   refine vsI.atR 11 rfl fun hA => ?_
   have hA := hA (by omega)
   refine vsI.atR 50 rfl fun hA2 => ?_
   have hA2 := hA2 (by simp)
   refine vsI.tf (Tf.split 51 46 rfl rfl rfl) ?_
   dsimp only
   simp only [hbe]
   refine vsI.atR 46 rfl fun hA3 => ?_
   have hA3 := hA3 (by omega)
   refine gO ?_
   ((first | refine ⟨⟨by omega, hA⟩, ?_⟩ | refine ⟨hA, ?_⟩); (try simp only [seval, go_sem]))
   (refine ldF.one _ (RdS.cell 11 rfl rfl) ?_; refine gO ?_)
   (with_reducible refine condI.split (fun hg => ?_) (fun hg => ?_) <;> (try simp only [hg]) <;> (try simp only [seval, go_sem]))
   ·exfalso
    simp at hg
    omega
   refine gO ?_
   ((first | refine ⟨⟨by omega, hA⟩, ?_⟩ | refine ⟨hA, ?_⟩); (try simp only [seval, go_sem]))
   (refine ldF.one _ (RdS.cell 11 rfl rfl) ?_; refine gO ?_)
   refine ⟨⟨by simp, hA2⟩, ?_⟩
   refine ldF.agg (sz := 2) [.bool false, .slice a bytes.length cb] rfl (RdS.part 50 rfl (fun i u hu => by rw [Nat.zero_add]; match i, hu with | 0, hu => exact hu | 1, hu => exact hu)) ?_
   refine gO ?_
   have w1 : IntKind.i64.wrap ((bytes.length : Int) - 1) = (bytes.length : Int) - 1 := wrap_in (by omega) (by omega)
   have i1 : inB (i : Int) 0 ((bytes.length : Int) - 1) = true := inB_iff.2 ⟨by omega, by omega⟩
   have i2 : inB vv 1 255 = true := inB_iff.2 hvv
   try simp only [w1]
   refine tT ?_; refine callP (in_s (i : Int) 0 ((bytes.length : Int) - 1) z) rfl rfl ?_; rintro _ _ - ⟨rfl, rfl⟩; refine gO ?_
   simp only [i1]
   refine gO ?_
   refine tT ?_; refine callP (in_s vv 1 255 z) rfl rfl ?_; rintro _ _ - ⟨rfl, rfl⟩; refine gO ?_
   simp only [i2]
   refine gO ?_
   refine ⟨⟨by omega, by omega, hA3⟩, ?_⟩
   (try simp only [seval, go_sem])
   simp only [Nat.mul_one]
   refine ldF.one _ (RdS.cell 46 rfl (bc_get hi)) ?_
   refine gO ?_
   refine ⟨⟨by omega, by omega, hA3⟩, ?_⟩
   (try simp only [seval, go_sem])
   simp only [Nat.mul_one]
   rw [bend_bits hb2 hi hvv]
   refine stoV_row 46 rfl rfl rfl rfl rfl rfl rfl (by simp only [bc, List.length_map, List.length_singleton]; omega) ?_
   rw [bc_set hi]
   refine gO ?_
   ((first | refine ⟨⟨by omega, hA⟩, ?_⟩ | refine ⟨hA, ?_⟩); (try simp only [seval, go_sem]))
   (refine ldF.one _ (RdS.cell 11 rfl rfl) ?_; refine gO ?_)
   refine ⟨⟨by simp, hA2⟩, ?_⟩
   refine stoV_row 50 rfl rfl rfl rfl rfl rfl rfl (by simp [netV]) ?_
   simp only [seval, go_sem, putV]
   refine gO ?_
   (refine FinV.pk 97 [46, 51] ?_); dsimp only
   refine FinV.tf (Tf.own 97 rfl rfl (fun w F h => starL_tie h)) ?_
   dsimp only
   (refine FinV.pk 999 [10, 11, 20, 21, 22, 23, 30, 31, 32, 33, 40, 41, 50, 97] ?_); dsimp only
   refine fP ?_
   have hbm : bendM ⟨false, bytes⟩ (i : Int) vv = ⟨true, bytes.set i (((bytes.getD i 0).toNat ^^^ vv.toNat : Nat) : Int)⟩ := by unfold bendM; rw [if_pos ⟨by omega, by exact hat.2, hvv.1, hvv.2, rfl⟩]; rfl
   rw [bendL_cons, hbm]
   have hbe' : bysA (bytes.set i (((bytes.getD i 0).toNat ^^^ vv.toNat : Nat) : Int)) a cb = rowA tyB 1 (.slice a bytes.length cb) bytes.length (bc (bytes.set i (((bytes.getD i 0).toNat ^^^ vv.toNat : Nat) : Int))) := by
    unfold bysA
    rw [if_neg (List.ne_nil_of_length_pos (by rw [List.length_set]; omega)), List.length_set]
   refine ⟨e0, e1, _, _, ⟨E, EC, N, NC, m0, m1, ⟨A0, C0, ms0⟩, ⟨A1, C1, (a, cb) :: ms⟩⟩, rfl, rfl, rfl, rfl, ?_, ?_⟩
   ·simp only [wldA, netB, netV, hbe', List.length_set]
    rfl
   ·have hbx := bend_bys hb2 hi hvv
    exact ⟨hR.e0, hR.e1, hR.n0, ⟨⟨⟨by rw [List.length_set]; exact hb1, hbx⟩, hok2⟩, hcap⟩⟩
 ·have hsame : ∀ x l, n1 = x :: l → bendM x at_ vv = x := fun x l e => by
   unfold bendM
   rw [if_neg (fun h => hP ⟨x, l, e, h.2.2.2.2, ⟨h.1, h.2.1⟩, h.2.2.1, h.2.2.2.1⟩)]
  refine eL kyR k93 ?_
  refine vsI.atR 11 rfl fun hA => ?_
  have hA := hA (by omega)
  refine vsI.atR 50 rfl fun hA2 => ?_
  refine gO ?_
  ((first | refine ⟨⟨by omega, hA⟩, ?_⟩ | refine ⟨hA, ?_⟩); (try simp only [seval, go_sem]))
  (refine ldF.one _ (RdS.cell 11 rfl rfl) ?_; refine gO ?_)
  (with_reducible refine condI.split (fun hg => ?_) (fun hg => ?_) <;> (try simp only [hg]) <;> (try simp only [seval, go_sem]))
  ·have h0 : n1 = [] := List.eq_nil_of_length_eq_zero (by simp at hg; simp [hg])
   refine gO ?_
   refine wS ?_
   subst h0
   exact WldH.mk hR
  ·cases n1 with
   | nil => simp at hg
   | cons msg rest =>
    obtain ⟨bent, bytes⟩ := msg
    have h15 : bytes.length ≤ 15 := hN.2 ⟨bent, bytes⟩ (by simp)
    have hA2 := hA2 (by simp)
    cases ms1 with
    | nil => exact hok.elim
    | cons x ms =>
     obtain ⟨a, cb⟩ := x
     have hsm := hsame _ _ rfl
     have w1 : IntKind.i64.wrap ((bytes.length : Int) - 1) = (bytes.length : Int) - 1 := wrap_in (by omega) (by omega)
     refine gO ?_
     ((first | refine ⟨⟨by omega, hA⟩, ?_⟩ | refine ⟨hA, ?_⟩); (try simp only [seval, go_sem]))
     (refine ldF.one _ (RdS.cell 11 rfl rfl) ?_; refine gO ?_)
     refine ⟨⟨by simp, hA2⟩, ?_⟩
     refine ldF.agg (sz := 2) [.bool bent, .slice a bytes.length cb] rfl (RdS.part 50 rfl (fun i u hu => by rw [Nat.zero_add]; match i, hu with | 0, hu => exact hu | 1, hu => exact hu)) ?_
     cases bent
     ·refine gO ?_
      try simp only [w1]
      refine tT ?_; refine callP (in_s at_ 0 ((bytes.length : Int) - 1) z) rfl rfl ?_; rintro _ _ - ⟨rfl, rfl⟩; refine gO ?_
      cases h1 : inB at_ 0 ((bytes.length : Int) - 1)
      ·refine gO ?_
       refine wS ?_
       rw [bendL_cons, hsm]
       exact WldH.mk hR
      ·refine gO ?_
       refine tT ?_; refine callP (in_s vv 1 255 z) rfl rfl ?_; rintro _ _ - ⟨rfl, rfl⟩; refine gO ?_
       cases h2 : inB vv 1 255
       ·refine gO ?_
        refine wS ?_
        rw [bendL_cons, hsm]
        exact WldH.mk hR
       ·exfalso
        rw [inB_iff] at h1 h2
        exact hP ⟨⟨false, bytes⟩, rest, rfl, rfl, ⟨h1.1, by have := h1.2; show at_ < (bytes.length : Int); omega⟩, h2.1, h2.2⟩
     ·refine gO ?_
      refine wS ?_
      rw [bendL_cons, hsm]
      exact WldH.mk hR
theorem FinV.toRow {s : St} {fr : List FR} {R : Value → Zc → Asrt → Prop} (k j : Nat) {e sz m : Nat} {cs : List SC} {vs : List Value} (hk : look j s.L = some (.cells e cs)) (hv : allV cs = some vs) (hl : vs.length = m * sz) (hm : m ≤ 1000000000) (h : ∀ b, FinV fr (rowSt s k j b e sz m vs) R) : FinV fr s R := fun C ρ a w hs => by
 obtain ⟨b, _, hs'⟩ := hs.toRow k j hk hv hl hm
 exact h b C ρ a w hs'
theorem l9move0 (c : Cfg) (link : Int) (e0 e1 : End) (n0 n1 : List Msg) (m : WM) (ev : Evt) (v : Value) (z : Zc) (hv : By z ev.data v) (hR : WldR z e0 e1 n0 n1 m) (hl : 0 ≤ link ∧ link ≤ 1) (hw : ev.who = 0) (hk : ev.kind = 10) :
  Spec Tryz.prog 63 [wldV c link m, vEvt ev v] z (wldA e0 e1 n0 n1 m) (WldH c ⟨c, [e0, e1], [[], []], 1 - link⟩) := by
 obtain ⟨kind, who, at_, vv, data⟩ := ev
 dsimp only at *
 subst hw
 subst hk
 obtain ⟨Av, kv, rfl, hkv, hBv, hrv⟩ := hv.form
 refine eL kyR k63 ?_
 refine gO ?_
 refine tT ?_; refine callP (in_s 0 0 1 z) rfl rfl ?_; rintro _ _ - ⟨rfl, rfl⟩; refine gO ?_
 simp only [seval, go_sem, show inB 0 0 1 = true from rfl, show inB 1 0 1 = true from rfl]
 refine gO ?_
 have w1 : IntKind.i64.wrap (1 - link) = 1 - link := wrap_in (by omega) (by omega)
 simp only [w1]
 refine FinV.toRow 62 3 (m := 0) (sz := 2) rfl rfl rfl (by omega) (fun b3 => ?_)
 simp only [seval, go_sem, rowSt, subV, subC, subE, subL]
 refine FinV.toRow 63 4 (m := 0) (sz := 2) rfl rfl rfl (by omega) (fun b4 => ?_)
 simp only [seval, go_sem, rowSt, subV, subC, subE, subL]
 refine FinV.toRow 61 5 (m := 2) (sz := 1) rfl rfl rfl (by omega) (fun b5 => ?_)
 simp only [seval, go_sem, rowSt, subV, subC, subE, subL]
 refine FinV.tf (Tf.addE 64 rfl) ?_
 refine FinV.tf (Tf.addE 65 rfl) ?_
 dsimp only
 (refine FinV.pk 999 [10, 61, 20, 21, 22, 23, 30, 31, 32, 33, 62, 64, 63, 65] ?_); dsimp only
 refine fP ?_
 exact ⟨e0, e1, [], [], ⟨m.E, m.EC, some ⟨b5, 0, none⟩, 2, m.m0, m.m1, ⟨some ⟨b3, 0, none⟩, 0, []⟩, ⟨some ⟨b4, 0, none⟩, 0, []⟩⟩, rfl, rfl, rfl, rfl, rfl, ⟨hR.e0, hR.e1, ⟨trivial, Nat.le_refl _⟩, ⟨trivial, Nat.le_refl _⟩⟩⟩
theorem l9move1 (c : Cfg) (link : Int) (e0 e1 : End) (n0 n1 : List Msg) (m : WM) (ev : Evt) (v : Value) (z : Zc) (hv : By z ev.data v) (hR : WldR z e0 e1 n0 n1 m) (hl : 0 ≤ link ∧ link ≤ 1) (hw : ev.who = 1) (hk : ev.kind = 10) :
  Spec Tryz.prog 63 [wldV c link m, vEvt ev v] z (wldA e0 e1 n0 n1 m) (WldH c ⟨c, [e0, e1], [[], []], 1 - link⟩) := by
 obtain ⟨kind, who, at_, vv, data⟩ := ev
 dsimp only at *
 subst hw
 subst hk
 obtain ⟨Av, kv, rfl, hkv, hBv, hrv⟩ := hv.form
 refine eL kyR k63 ?_
 refine gO ?_
 refine tT ?_; refine callP (in_s 1 0 1 z) rfl rfl ?_; rintro _ _ - ⟨rfl, rfl⟩; refine gO ?_
 simp only [seval, go_sem, show inB 0 0 1 = true from rfl, show inB 1 0 1 = true from rfl]
 refine gO ?_
 have w1 : IntKind.i64.wrap (1 - link) = 1 - link := wrap_in (by omega) (by omega)
 simp only [w1]
 refine FinV.toRow 62 3 (m := 0) (sz := 2) rfl rfl rfl (by omega) (fun b3 => ?_)
 simp only [seval, go_sem, rowSt, subV, subC, subE, subL]
 refine FinV.toRow 63 4 (m := 0) (sz := 2) rfl rfl rfl (by omega) (fun b4 => ?_)
 simp only [seval, go_sem, rowSt, subV, subC, subE, subL]
 refine FinV.toRow 61 5 (m := 2) (sz := 1) rfl rfl rfl (by omega) (fun b5 => ?_)
 simp only [seval, go_sem, rowSt, subV, subC, subE, subL]
 refine FinV.tf (Tf.addE 64 rfl) ?_
 refine FinV.tf (Tf.addE 65 rfl) ?_
 dsimp only
 (refine FinV.pk 999 [10, 61, 20, 21, 22, 23, 30, 31, 32, 33, 62, 64, 63, 65] ?_); dsimp only
 refine fP ?_
 exact ⟨e0, e1, [], [], ⟨m.E, m.EC, some ⟨b5, 0, none⟩, 2, m.m0, m.m1, ⟨some ⟨b3, 0, none⟩, 0, []⟩, ⟨some ⟨b4, 0, none⟩, 0, []⟩⟩, rfl, rfl, rfl, rfl, rfl, ⟨hR.e0, hR.e1, ⟨trivial, Nat.le_refl _⟩, ⟨trivial, Nat.le_refl _⟩⟩⟩
theorem l9inj0 (c : Cfg) (link : Int) (e0 e1 : End) (n0 n1 : List Msg) (m : WM) (ev : Evt) (v : Value) (z : Zc) (hv : By z ev.data v) (hl : ev.data.length ≤ 1000000) (hR : WldR z e0 e1 n0 n1 m) (h30 : n0.length ≤ 30) (hw : ev.who = 0) (hk : ev.kind = 11) :
  Spec Tryz.prog 63 [wldV c link m, vEvt ev v] z (wldA e0 e1 n0 n1 m) (WldH c (if n0.length < 30 ∧ ev.data.length ≤ 15 then ⟨c, [e0, e1], [n0, n1].set 0 (n0 ++ [⟨false, ev.data⟩]), link⟩ else ⟨c, [e0, e1], [n0, n1], link⟩)) := by
 obtain ⟨kind, who, at_, vv, data⟩ := ev
 dsimp only at *
 subst hw
 subst hk
 obtain ⟨Av, kv, rfl, hkv, hBv, hrv⟩ := hv.form
 have hlen := hR.n0.ok.len
 have hvl := netV_len hR.n0.ok
 refine eL kyR k63 ?_
 refine vsI.atR 11 rfl fun hN => ?_
 have hN := hN (by omega)
 refine gO ?_
 refine tT ?_; refine callP (in_s 0 0 1 z) rfl rfl ?_; rintro _ _ - ⟨rfl, rfl⟩; refine gO ?_
 simp only [seval, go_sem, show inB 0 0 1 = true from rfl, show inB 1 0 1 = true from rfl]
 refine gO ?_
 ((first | refine ⟨⟨by omega, hN⟩, ?_⟩ | refine ⟨hN, ?_⟩); (try simp only [seval, go_sem]))
 (refine ldF.one _ (RdS.cell 11 rfl rfl) ?_; refine gO ?_)
 by_cases h1 : n0.length < 30
 ·have g1 : decide ((n0.length : Int) < 30) = true := decide_eq_true (by omega)
  simp only [g1]
  refine gO ?_
  by_cases h2 : data.length ≤ 15
  ·have g2 : decide ((data.length : Int) ≤ 15) = true := decide_eq_true (by omega)
   rw [if_pos ⟨h1, h2⟩]
   simp only [g2]
   refine gO ?_
   (with_reducible refine joinV.id ?_; simp only [seval, go_sem])
   ((first | refine ⟨⟨by omega, hN⟩, ?_⟩ | refine ⟨hN, ?_⟩); (try simp only [seval, go_sem]))
   by_cases h0 : data.length = 0
   ·have hbn : data = [] := List.eq_nil_of_length_eq_zero h0
    subst hbn
    simp only [List.length_nil]
    repeat' (first | (refine And.intro ?_ ?_ <;> (try simp only [seval, go_sem])) | (refine ldF.one _ (RdS.cell 11 rfl rfl) ?_; refine gO ?_))
    all_goals refine aT ?_; (refine appM_zero atyB (by first | exact .inl ⟨_, _, _, Nat.le_refl _, rfl⟩ | exact .inr ⟨_, _, rfl⟩) rfl ?_); refine gO ?_
    repeat' (first | (refine And.intro ?_ ?_ <;> (try simp only [seval, go_sem])) | (refine ldF.one _ (RdS.cell 11 rfl rfl) ?_; refine gO ?_))
    all_goals refine appM.frz 3 rfl rfl (fun b9 z9 hz9 hr9 => ?_)
    all_goals simp only [seval, go_sem, Go.Proofs.YtllafcmkppmdgaaGreat.frz, subV, subC, subE, subL]
    all_goals refine aT ?_; (refine appM_newF 40 atyMs rfl rfl rfl rfl rfl rfl rfl (by simp [Value.oneCell']) (by omega) (fun A6 c6 hc6 hat6 => ?_)); refine gO ?_
    all_goals ((first | refine ⟨⟨by omega, hN⟩, ?_⟩ | refine ⟨hN, ?_⟩); (try simp only [seval, go_sem]))
    all_goals (refine stoV_row 11 rfl rfl rfl rfl rfl rfl rfl (by simp) ?_; simp only [seval, go_sem, putV]; refine gO ?_)
    all_goals refine FinV.tf (Tf.addE 95 rfl) ?_
    all_goals dsimp only
    all_goals (refine FinV.pk 96 [41, 95] ?_); dsimp only
    all_goals refine FinV.tf (Tf.own 96 rfl rfl (fun w F h => starL_push h)) ?_
    all_goals dsimp only
    all_goals (refine FinV.pk 999 [10, 11, 20, 21, 22, 23, 30, 31, 32, 33, 40, 96, 50, 51] ?_); dsimp only
    all_goals refine fP ?_
    all_goals dsimp only at hz9
    all_goals have hbe : bysA [] (some ⟨b9, 0, none⟩) 0 = starL [] := by unfold bysA; rw [if_pos rfl]; rfl
    all_goals have hR9 := WldR.up hz9 hR
    all_goals refine ⟨e0, e1, _, _, { m with n0 := ⟨A6, c6, m.n0.ms ++ [(some ⟨b9, 0, none⟩, 0)]⟩ }, rfl, rfl, rfl, rfl, ?_, ⟨hR9.e0, hR9.e1, hR.n0.snoc hc6 (Nat.zero_le _) hBv, hR.n1⟩⟩
    all_goals simp only [wldA, netV_snoc _ _ _ _ _ hlen, netB_snoc _ _ _ _ _ hlen, List.length_append, List.length_singleton, List.length_nil, hbe]
   ·have hbe : ∀ A5 c5, bysA data A5 c5 = rowA tyB 1 (.slice A5 data.length c5) data.length (bc data) := fun A5 c5 => by unfold bysA; rw [if_neg (List.ne_nil_of_length_pos (by omega))]
    repeat' (first | (refine And.intro ?_ ?_ <;> (try simp only [seval, go_sem])) | (refine ldF.one _ (RdS.cell 11 rfl rfl) ?_; refine gO ?_))
    all_goals refine aT ?_; (refine appM_emptyO 95 atyB rfl (by first | exact .inl ⟨_, rfl⟩ | exact .inr ⟨_, _, rfl⟩) rfl (hrv) (by first | omega | (simp <;> omega)) (bc_one _) (by omega) (by omega) (fun A5 c5 hc5 => ?_)); refine gO ?_
    repeat' (first | (refine And.intro ?_ ?_ <;> (try simp only [seval, go_sem])) | (refine ldF.one _ (RdS.cell 11 rfl rfl) ?_; refine gO ?_))
    all_goals refine aT ?_; (refine appM_newF 40 atyMs rfl rfl rfl rfl rfl rfl rfl (by simp [Value.oneCell']) (by omega) (fun A6 c6 hc6 hat6 => ?_)); refine gO ?_
    all_goals ((first | refine ⟨⟨by omega, hN⟩, ?_⟩ | refine ⟨hN, ?_⟩); (try simp only [seval, go_sem]))
    all_goals (refine stoV_row 11 rfl rfl rfl rfl rfl rfl rfl (by simp) ?_; simp only [seval, go_sem, putV]; refine gO ?_)
    all_goals (refine FinV.pk 96 [41, 95] ?_); dsimp only
    all_goals refine FinV.tf (Tf.own 96 rfl rfl (fun w F h => starL_push h)) ?_
    all_goals dsimp only
    all_goals (refine FinV.pk 999 [10, 11, 20, 21, 22, 23, 30, 31, 32, 33, 40, 96, 50, 51] ?_); dsimp only
    all_goals refine fP ?_
    all_goals refine ⟨e0, e1, _, _, { m with n0 := ⟨A6, c6, m.n0.ms ++ [(A5, c5)]⟩ }, rfl, rfl, rfl, rfl, ?_, ⟨hR.e0, hR.e1, hR.n0.snoc hc6 hc5 hBv, hR.n1⟩⟩
    all_goals simp only [wldA, netV_snoc _ _ _ _ _ hlen, netB_snoc _ _ _ _ _ hlen, List.length_append, List.length_singleton, hbe]
  ·have g2 : decide ((data.length : Int) ≤ 15) = false := decide_eq_false (by omega)
   rw [if_neg (fun h => h2 h.2)]
   simp only [g2]
   refine gO ?_
   refine wS ?_
   exact WldH.mk hR
 ·have g1 : decide ((n0.length : Int) < 30) = false := decide_eq_false (by omega)
  rw [if_neg (fun h => h1 h.1)]
  simp only [g1]
  refine gO ?_
  refine wS ?_
  exact WldH.mk hR
theorem l9inj1 (c : Cfg) (link : Int) (e0 e1 : End) (n0 n1 : List Msg) (m : WM) (ev : Evt) (v : Value) (z : Zc) (hv : By z ev.data v) (hl : ev.data.length ≤ 1000000) (hR : WldR z e0 e1 n0 n1 m) (h30 : n1.length ≤ 30) (hw : ev.who = 1) (hk : ev.kind = 11) :
  Spec Tryz.prog 63 [wldV c link m, vEvt ev v] z (wldA e0 e1 n0 n1 m) (WldH c (if n1.length < 30 ∧ ev.data.length ≤ 15 then ⟨c, [e0, e1], [n0, n1].set 1 (n1 ++ [⟨false, ev.data⟩]), link⟩ else ⟨c, [e0, e1], [n0, n1], link⟩)) := by
 obtain ⟨kind, who, at_, vv, data⟩ := ev
 dsimp only at *
 subst hw
 subst hk
 obtain ⟨Av, kv, rfl, hkv, hBv, hrv⟩ := hv.form
 have hlen := hR.n1.ok.len
 have hvl := netV_len hR.n1.ok
 refine eL kyR k63 ?_
 refine vsI.atR 11 rfl fun hN => ?_
 have hN := hN (by omega)
 refine gO ?_
 refine tT ?_; refine callP (in_s 1 0 1 z) rfl rfl ?_; rintro _ _ - ⟨rfl, rfl⟩; refine gO ?_
 simp only [seval, go_sem, show inB 0 0 1 = true from rfl, show inB 1 0 1 = true from rfl]
 refine gO ?_
 ((first | refine ⟨⟨by omega, hN⟩, ?_⟩ | refine ⟨hN, ?_⟩); (try simp only [seval, go_sem]))
 (refine ldF.one _ (RdS.cell 11 rfl rfl) ?_; refine gO ?_)
 by_cases h1 : n1.length < 30
 ·have g1 : decide ((n1.length : Int) < 30) = true := decide_eq_true (by omega)
  simp only [g1]
  refine gO ?_
  by_cases h2 : data.length ≤ 15
  ·have g2 : decide ((data.length : Int) ≤ 15) = true := decide_eq_true (by omega)
   rw [if_pos ⟨h1, h2⟩]
   simp only [g2]
   refine gO ?_
   (with_reducible refine joinV.id ?_; simp only [seval, go_sem])
   ((first | refine ⟨⟨by omega, hN⟩, ?_⟩ | refine ⟨hN, ?_⟩); (try simp only [seval, go_sem]))
   by_cases h0 : data.length = 0
   ·have hbn : data = [] := List.eq_nil_of_length_eq_zero h0
    subst hbn
    simp only [List.length_nil]
    repeat' (first | (refine And.intro ?_ ?_ <;> (try simp only [seval, go_sem])) | (refine ldF.one _ (RdS.cell 11 rfl rfl) ?_; refine gO ?_))
    all_goals refine aT ?_; (refine appM_zero atyB (by first | exact .inl ⟨_, _, _, Nat.le_refl _, rfl⟩ | exact .inr ⟨_, _, rfl⟩) rfl ?_); refine gO ?_
    repeat' (first | (refine And.intro ?_ ?_ <;> (try simp only [seval, go_sem])) | (refine ldF.one _ (RdS.cell 11 rfl rfl) ?_; refine gO ?_))
    all_goals refine appM.frz 3 rfl rfl (fun b9 z9 hz9 hr9 => ?_)
    all_goals simp only [seval, go_sem, Go.Proofs.YtllafcmkppmdgaaGreat.frz, subV, subC, subE, subL]
    all_goals refine aT ?_; (refine appM_newF 50 atyMs rfl rfl rfl rfl rfl rfl rfl (by simp [Value.oneCell']) (by omega) (fun A6 c6 hc6 hat6 => ?_)); refine gO ?_
    all_goals ((first | refine ⟨⟨by omega, hN⟩, ?_⟩ | refine ⟨hN, ?_⟩); (try simp only [seval, go_sem]))
    all_goals (refine stoV_row 11 rfl rfl rfl rfl rfl rfl rfl (by simp) ?_; simp only [seval, go_sem, putV]; refine gO ?_)
    all_goals refine FinV.tf (Tf.addE 95 rfl) ?_
    all_goals dsimp only
    all_goals (refine FinV.pk 96 [51, 95] ?_); dsimp only
    all_goals refine FinV.tf (Tf.own 96 rfl rfl (fun w F h => starL_push h)) ?_
    all_goals dsimp only
    all_goals (refine FinV.pk 999 [10, 11, 20, 21, 22, 23, 30, 31, 32, 33, 40, 41, 50, 96] ?_); dsimp only
    all_goals refine fP ?_
    all_goals dsimp only at hz9
    all_goals have hbe : bysA [] (some ⟨b9, 0, none⟩) 0 = starL [] := by unfold bysA; rw [if_pos rfl]; rfl
    all_goals have hR9 := WldR.up hz9 hR
    all_goals refine ⟨e0, e1, _, _, { m with n1 := ⟨A6, c6, m.n1.ms ++ [(some ⟨b9, 0, none⟩, 0)]⟩ }, rfl, rfl, rfl, rfl, ?_, ⟨hR9.e0, hR9.e1, hR.n0, hR.n1.snoc hc6 (Nat.zero_le _) hBv⟩⟩
    all_goals simp only [wldA, netV_snoc _ _ _ _ _ hlen, netB_snoc _ _ _ _ _ hlen, List.length_append, List.length_singleton, List.length_nil, hbe]
   ·have hbe : ∀ A5 c5, bysA data A5 c5 = rowA tyB 1 (.slice A5 data.length c5) data.length (bc data) := fun A5 c5 => by unfold bysA; rw [if_neg (List.ne_nil_of_length_pos (by omega))]
    repeat' (first | (refine And.intro ?_ ?_ <;> (try simp only [seval, go_sem])) | (refine ldF.one _ (RdS.cell 11 rfl rfl) ?_; refine gO ?_))
    all_goals refine aT ?_; (refine appM_emptyO 95 atyB rfl (by first | exact .inl ⟨_, rfl⟩ | exact .inr ⟨_, _, rfl⟩) rfl (hrv) (by first | omega | (simp <;> omega)) (bc_one _) (by omega) (by omega) (fun A5 c5 hc5 => ?_)); refine gO ?_
    repeat' (first | (refine And.intro ?_ ?_ <;> (try simp only [seval, go_sem])) | (refine ldF.one _ (RdS.cell 11 rfl rfl) ?_; refine gO ?_))
    all_goals refine aT ?_; (refine appM_newF 50 atyMs rfl rfl rfl rfl rfl rfl rfl (by simp [Value.oneCell']) (by omega) (fun A6 c6 hc6 hat6 => ?_)); refine gO ?_
    all_goals ((first | refine ⟨⟨by omega, hN⟩, ?_⟩ | refine ⟨hN, ?_⟩); (try simp only [seval, go_sem]))
    all_goals (refine stoV_row 11 rfl rfl rfl rfl rfl rfl rfl (by simp) ?_; simp only [seval, go_sem, putV]; refine gO ?_)
    all_goals (refine FinV.pk 96 [51, 95] ?_); dsimp only
    all_goals refine FinV.tf (Tf.own 96 rfl rfl (fun w F h => starL_push h)) ?_
    all_goals dsimp only
    all_goals (refine FinV.pk 999 [10, 11, 20, 21, 22, 23, 30, 31, 32, 33, 40, 41, 50, 96] ?_); dsimp only
    all_goals refine fP ?_
    all_goals refine ⟨e0, e1, _, _, { m with n1 := ⟨A6, c6, m.n1.ms ++ [(A5, c5)]⟩ }, rfl, rfl, rfl, rfl, ?_, ⟨hR.e0, hR.e1, hR.n0, hR.n1.snoc hc6 hc5 hBv⟩⟩
    all_goals simp only [wldA, netV_snoc _ _ _ _ _ hlen, netB_snoc _ _ _ _ _ hlen, List.length_append, List.length_singleton, hbe]
  ·have g2 : decide ((data.length : Int) ≤ 15) = false := decide_eq_false (by omega)
   rw [if_neg (fun h => h2 h.2)]
   simp only [g2]
   refine gO ?_
   refine wS ?_
   exact WldH.mk hR
 ·have g1 : decide ((n1.length : Int) < 30) = false := decide_eq_false (by omega)
  rw [if_neg (fun h => h1 h.1)]
  simp only [g1]
  refine gO ?_
  refine wS ?_
  exact WldH.mk hR
theorem stepn_put0 (c : Cfg) (link : Int) (e0 e1 : End) (n0 n1 : List Msg) (ev : Evt) (hm : c.mode = 1) (hk : ev.kind = 1) (hw : ev.who = 0) : step true ⟨c, [e0, e1], [n0, n1], link⟩ ev = if e0.put.length < 60 then ⟨c, [e0, e1].set 0 (putM c e0 ev.data), [n0, n1], link⟩ else ⟨c, [e0, e1], [n0, n1], link⟩ := by
 obtain ⟨kind, who, at_, v, data⟩ := ev
 obtain ⟨mode, win, mps, mtu, tri⟩ := c
 dsimp only at *
 subst hm hk hw
 rfl
theorem stepn_send0 (c : Cfg) (link : Int) (e0 e1 : End) (n0 n1 : List Msg) (ev : Evt) (hm : c.mode = 1) (hk : ev.kind = 2) (hw : ev.who = 0) : step true ⟨c, [e0, e1], [n0, n1], link⟩ ev = if n1.length < 30 then sayO ⟨c, [e0, e1].set 0 { e0 with tx := (txSend true c e0.tx e0.rx.expect).1 }, [n0, n1], link⟩ 0 (txSend true c e0.tx e0.rx.expect).2 else ⟨c, [e0, e1], [n0, n1], link⟩ := by
 obtain ⟨kind, who, at_, v, data⟩ := ev
 obtain ⟨mode, win, mps, mtu, tri⟩ := c
 dsimp only at *
 subst hm hk hw
 rfl
theorem stepn_tick0 (c : Cfg) (link : Int) (e0 e1 : End) (n0 n1 : List Msg) (ev : Evt) (hm : c.mode = 1) (hk : ev.kind = 3) (hw : ev.who = 0) : step true ⟨c, [e0, e1], [n0, n1], link⟩ ev = sayO ⟨c, [e0, e1].set 0 { e0 with tx := (txTick c e0.tx e0.rx.expect e0.rx.busy).1 }, [n0, n1], link⟩ 0 (txTick c e0.tx e0.rx.expect e0.rx.busy).2 := by
 obtain ⟨kind, who, at_, v, data⟩ := ev
 obtain ⟨mode, win, mps, mtu, tri⟩ := c
 dsimp only at *
 subst hm hk hw
 rfl
theorem stepn_say0 (c : Cfg) (link : Int) (e0 e1 : End) (n0 n1 : List Msg) (ev : Evt) (hm : c.mode = 1) (hk : ev.kind = 4 ∨ ev.kind = 5 ∨ ev.kind = 6) (hw : ev.who = 0) : step true ⟨c, [e0, e1], [n0, n1], link⟩ ev = if ev.kind = 4 then says ⟨c, [e0, e1].set 0 { e0 with rx := (rxBusy e0.rx (decide (ev.v = 1))).1 }, [n0, n1], link⟩ 0 (rxBusy e0.rx (decide (ev.v = 1))).2 else if ev.kind = 5 ∧ e0.rx.dead = false then say1 ⟨c, [e0, e1], [n0, n1], link⟩ 0 (rxAck e0.rx) else ⟨c, [e0, e1], [n0, n1], link⟩ := by
 obtain ⟨kind, who, at_, v, data⟩ := ev
 obtain ⟨mode, win, mps, mtu, tri⟩ := c
 dsimp only at *
 subst hm hw
 rcases hk with rfl | rfl | rfl
 ·rfl
 ·show (if e0.rx.dead = true then _ else _) = _
  cases e0.rx.dead <;> rfl
 ·rfl
theorem stepn_hear0 (c : Cfg) (link : Int) (e0 e1 : End) (n0 n1 : List Msg) (ev : Evt) (hm : c.mode = 1) (hk : ev.kind = 7) (hw : ev.who = 0) : step true ⟨c, [e0, e1], [n0, n1], link⟩ ev = hear1N0 c link e0 e1 n0 n1 := by
 obtain ⟨kind, who, at_, v, data⟩ := ev
 obtain ⟨mode, win, mps, mtu, tri⟩ := c
 dsimp only at *
 subst hm hk hw
 cases n0 with
 | nil => rfl
 | cons a l =>
  show hear1 ⟨⟨1, win, mps, mtu, tri⟩, [e0, e1], [a :: l, n1], link⟩ 0 = _
  simp only [hear1, netAt, List.getD_cons_zero, List.getD_cons_succ, hear1N0]
  cases frmRead a.bytes with
  | none => rfl
  | some f =>
   simp only [hearF, frameN0]
   by_cases h : f.kind = 1 ∨ f.kind = 2
   ·rw [if_pos h]; simp only [h, if_true]; rfl
   ·rw [if_neg h]; simp only [h, if_false]; rfl
theorem step_bend0 (c : Cfg) (link : Int) (e0 e1 : End) (n0 n1 : List Msg) (ev : Evt) (hk : ev.kind = 9) (hw : ev.who = 0) : step true ⟨c, [e0, e1], [n0, n1], link⟩ ev = ⟨c, [e0, e1], [n0, n1].set 0 (bendL n0 ev.at_ ev.v), link⟩ := by
 obtain ⟨kind, who, at_, v, data⟩ := ev
 dsimp only at *
 subst hk hw
 cases n0 <;> rfl
theorem step_move0 (c : Cfg) (link : Int) (e0 e1 : End) (n0 n1 : List Msg) (ev : Evt) (hk : ev.kind = 10) (hw : ev.who = 0) : step true ⟨c, [e0, e1], [n0, n1], link⟩ ev = ⟨c, [e0, e1], [[], []], 1 - link⟩ := by
 obtain ⟨kind, who, at_, v, data⟩ := ev
 dsimp only at *
 subst hk hw
 rfl
theorem step_inj0 (c : Cfg) (link : Int) (e0 e1 : End) (n0 n1 : List Msg) (ev : Evt) (hk : ev.kind = 11) (hw : ev.who = 0) : step true ⟨c, [e0, e1], [n0, n1], link⟩ ev = if n0.length < 30 ∧ ev.data.length ≤ 15 then ⟨c, [e0, e1], [n0, n1].set 0 (n0 ++ [⟨false, ev.data⟩]), link⟩ else ⟨c, [e0, e1], [n0, n1], link⟩ := by
 obtain ⟨kind, who, at_, v, data⟩ := ev
 dsimp only at *
 subst hk hw
 rfl
theorem stepn_put1 (c : Cfg) (link : Int) (e0 e1 : End) (n0 n1 : List Msg) (ev : Evt) (hm : c.mode = 1) (hk : ev.kind = 1) (hw : ev.who = 1) : step true ⟨c, [e0, e1], [n0, n1], link⟩ ev = if e1.put.length < 60 then ⟨c, [e0, e1].set 1 (putM c e1 ev.data), [n0, n1], link⟩ else ⟨c, [e0, e1], [n0, n1], link⟩ := by
 obtain ⟨kind, who, at_, v, data⟩ := ev
 obtain ⟨mode, win, mps, mtu, tri⟩ := c
 dsimp only at *
 subst hm hk hw
 rfl
theorem stepn_send1 (c : Cfg) (link : Int) (e0 e1 : End) (n0 n1 : List Msg) (ev : Evt) (hm : c.mode = 1) (hk : ev.kind = 2) (hw : ev.who = 1) : step true ⟨c, [e0, e1], [n0, n1], link⟩ ev = if n0.length < 30 then sayO ⟨c, [e0, e1].set 1 { e1 with tx := (txSend true c e1.tx e1.rx.expect).1 }, [n0, n1], link⟩ 1 (txSend true c e1.tx e1.rx.expect).2 else ⟨c, [e0, e1], [n0, n1], link⟩ := by
 obtain ⟨kind, who, at_, v, data⟩ := ev
 obtain ⟨mode, win, mps, mtu, tri⟩ := c
 dsimp only at *
 subst hm hk hw
 rfl
theorem stepn_tick1 (c : Cfg) (link : Int) (e0 e1 : End) (n0 n1 : List Msg) (ev : Evt) (hm : c.mode = 1) (hk : ev.kind = 3) (hw : ev.who = 1) : step true ⟨c, [e0, e1], [n0, n1], link⟩ ev = sayO ⟨c, [e0, e1].set 1 { e1 with tx := (txTick c e1.tx e1.rx.expect e1.rx.busy).1 }, [n0, n1], link⟩ 1 (txTick c e1.tx e1.rx.expect e1.rx.busy).2 := by
 obtain ⟨kind, who, at_, v, data⟩ := ev
 obtain ⟨mode, win, mps, mtu, tri⟩ := c
 dsimp only at *
 subst hm hk hw
 rfl
theorem stepn_say1 (c : Cfg) (link : Int) (e0 e1 : End) (n0 n1 : List Msg) (ev : Evt) (hm : c.mode = 1) (hk : ev.kind = 4 ∨ ev.kind = 5 ∨ ev.kind = 6) (hw : ev.who = 1) : step true ⟨c, [e0, e1], [n0, n1], link⟩ ev = if ev.kind = 4 then says ⟨c, [e0, e1].set 1 { e1 with rx := (rxBusy e1.rx (decide (ev.v = 1))).1 }, [n0, n1], link⟩ 1 (rxBusy e1.rx (decide (ev.v = 1))).2 else if ev.kind = 5 ∧ e1.rx.dead = false then say1 ⟨c, [e0, e1], [n0, n1], link⟩ 1 (rxAck e1.rx) else ⟨c, [e0, e1], [n0, n1], link⟩ := by
 obtain ⟨kind, who, at_, v, data⟩ := ev
 obtain ⟨mode, win, mps, mtu, tri⟩ := c
 dsimp only at *
 subst hm hw
 rcases hk with rfl | rfl | rfl
 ·rfl
 ·show (if e1.rx.dead = true then _ else _) = _
  cases e1.rx.dead <;> rfl
 ·rfl
theorem stepn_hear1 (c : Cfg) (link : Int) (e0 e1 : End) (n0 n1 : List Msg) (ev : Evt) (hm : c.mode = 1) (hk : ev.kind = 7) (hw : ev.who = 1) : step true ⟨c, [e0, e1], [n0, n1], link⟩ ev = hear1N1 c link e0 e1 n0 n1 := by
 obtain ⟨kind, who, at_, v, data⟩ := ev
 obtain ⟨mode, win, mps, mtu, tri⟩ := c
 dsimp only at *
 subst hm hk hw
 cases n1 with
 | nil => rfl
 | cons a l =>
  show hear1 ⟨⟨1, win, mps, mtu, tri⟩, [e0, e1], [n0, a :: l], link⟩ 1 = _
  simp only [hear1, netAt, List.getD_cons_zero, List.getD_cons_succ, hear1N1]
  cases frmRead a.bytes with
  | none => rfl
  | some f =>
   simp only [hearF, frameN1]
   by_cases h : f.kind = 1 ∨ f.kind = 2
   ·rw [if_pos h]; simp only [h, if_true]; rfl
   ·rw [if_neg h]; simp only [h, if_false]; rfl
theorem step_bend1 (c : Cfg) (link : Int) (e0 e1 : End) (n0 n1 : List Msg) (ev : Evt) (hk : ev.kind = 9) (hw : ev.who = 1) : step true ⟨c, [e0, e1], [n0, n1], link⟩ ev = ⟨c, [e0, e1], [n0, n1].set 1 (bendL n1 ev.at_ ev.v), link⟩ := by
 obtain ⟨kind, who, at_, v, data⟩ := ev
 dsimp only at *
 subst hk hw
 cases n1 <;> rfl
theorem step_move1 (c : Cfg) (link : Int) (e0 e1 : End) (n0 n1 : List Msg) (ev : Evt) (hk : ev.kind = 10) (hw : ev.who = 1) : step true ⟨c, [e0, e1], [n0, n1], link⟩ ev = ⟨c, [e0, e1], [[], []], 1 - link⟩ := by
 obtain ⟨kind, who, at_, v, data⟩ := ev
 dsimp only at *
 subst hk hw
 rfl
theorem step_inj1 (c : Cfg) (link : Int) (e0 e1 : End) (n0 n1 : List Msg) (ev : Evt) (hk : ev.kind = 11) (hw : ev.who = 1) : step true ⟨c, [e0, e1], [n0, n1], link⟩ ev = if n1.length < 30 ∧ ev.data.length ≤ 15 then ⟨c, [e0, e1], [n0, n1].set 1 (n1 ++ [⟨false, ev.data⟩]), link⟩ else ⟨c, [e0, e1], [n0, n1], link⟩ := by
 obtain ⟨kind, who, at_, v, data⟩ := ev
 dsimp only at *
 subst hk hw
 rfl
theorem l9step_n0 (c : Cfg) (link : Int) (e0 e1 : End) (n0 n1 : List Msg) (m : WM) (ev : Evt) (v : Value) (z : Zc) (hv : By z ev.data v) (hd : ev.data.length ≤ 100000) (hR : WldR z e0 e1 n0 n1 m) (hW : WldI ⟨c, [e0, e1], [n0, n1], link⟩) (hm : c.mode = 1) (hw : ev.who = 0) (hk : 1 ≤ ev.kind ∧ ev.kind ≤ 8) :
  Spec Tryz.prog 63 [wldV c link m, vEvt ev v] z (wldA e0 e1 n0 n1 m) (WldH c (step true ⟨c, [e0, e1], [n0, n1], link⟩ ev)) := by
 have hI : EndI c e0 := hW.ends 0 (by omega)
 have hN : NetI n0 := hW.net 0 (by omega)
 have hNw : NetI n1 := hW.net 1 (by omega)
 have hp60 := hI.put.1
 have hn30 := hNw.1
 have hn30' := hN.1
 obtain ⟨kind, who, at_, vv, data⟩ := ev
 dsimp only at *
 subst hw
 obtain ⟨Av, kv, rfl, hkv, hBv, hrv⟩ := hv.form
 refine eB k63 ?_
 refine gO ?_
 refine tT ?_; refine callP (in_s 0 0 1 z) rfl rfl ?_; rintro _ _ - ⟨rfl, rfl⟩; refine gO ?_
 simp only [seval, go_sem, show inB 0 0 1 = true from rfl, show inB 1 0 1 = true from rfl]
 refine gO ?_
 have hk8 : kind = 1 ∨ kind = 2 ∨ kind = 3 ∨ kind = 4 ∨ kind = 5 ∨ kind = 6 ∨ kind = 7 ∨ kind = 8 := by omega
 rcases hk8 with rfl | rfl | rfl | rfl | rfl | rfl | rfl | rfl
 ·simp only [seval, go_sem]
  refine gO ?_
  by_cases h60 : e0.put.length < 60
  ·refine tT ?_; refine callW 1000 (l9put_n0 c link e0 e1 n0 n1 m data (.slice Av data.length kv) z hR hI hv hd hm h60) rfl rfl rfl rfl ?_; rintro u z1 A' hz1 ⟨e', he', hH⟩; refine gO ?_
   obtain ⟨f0, f1, g0, g1, m', hw1, hw2, hw3, rfl, rfl, hR3⟩ := hH
   refine fQ ?_
   rw [stepn_put0 c link e0 e1 n0 n1 _ hm rfl rfl, if_pos h60]
   subst he'
   exact ⟨f0, f1, g0, g1, m', hw1, hw2, hw3, rfl, rfl, hR3⟩
  ·refine tT ?_; refine callW 1000 (l9put_f0 c link e0 e1 n0 n1 m (.slice Av data.length kv) z hR data hv (by omega)) rfl rfl rfl rfl ?_; rintro u z1 A' hz1 ⟨f0, f1, g0, g1, m', hw1, hw2, hw3, rfl, rfl, hR3⟩; refine gO ?_
   refine fQ ?_
   rw [stepn_put0 c link e0 e1 n0 n1 _ hm rfl rfl, if_neg h60]
   exact ⟨f0, f1, g0, g1, m', hw1, hw2, hw3, rfl, rfl, hR3⟩
 ·simp only [seval, go_sem]
  refine gO ?_
  refine tT ?_; refine callW 1000 (l9send_n0 c link e0 e1 n0 n1 m z hR hI hm hn30) rfl rfl rfl rfl ?_; rintro u z1 A' hz1 ⟨f0, f1, g0, g1, m', hw1, hw2, hw3, rfl, rfl, hR3⟩; refine gO ?_
  refine fQ ?_
  rw [stepn_send0 c link e0 e1 n0 n1 _ hm rfl rfl]
  exact ⟨f0, f1, g0, g1, m', hw1, hw2, hw3, rfl, rfl, hR3⟩
 ·simp only [seval, go_sem]
  refine gO ?_
  refine tT ?_; refine callW 1000 (l9tick_n0 c link e0 e1 n0 n1 m z hR hI hm hn30) rfl rfl rfl rfl ?_; rintro u z1 A' hz1 ⟨f0, f1, g0, g1, m', hw1, hw2, hw3, rfl, rfl, hR3⟩; refine gO ?_
  refine fQ ?_
  rw [stepn_tick0 c link e0 e1 n0 n1 _ hm rfl rfl]
  exact ⟨f0, f1, g0, g1, m', hw1, hw2, hw3, rfl, rfl, hR3⟩
 ·simp only [seval, go_sem]
  refine gO ?_
  refine tT ?_; refine callW 1000 (l9say_n0 c link e0 e1 n0 n1 m ⟨4, 0, at_, vv, data⟩ (.slice Av data.length kv) z hv hR hI hm (by omega) (by omega) rfl (.inl rfl)) rfl rfl rfl rfl ?_; rintro u z1 A' hz1 ⟨f0, f1, g0, g1, m', hw1, hw2, hw3, rfl, rfl, hR3⟩; refine gO ?_
  refine fQ ?_
  rw [stepn_say0 c link e0 e1 n0 n1 _ hm (.inl rfl) rfl]
  first
   | exact ⟨f0, f1, g0, g1, m', hw1, hw2, hw3, rfl, rfl, hR3⟩
   | (simp only [seval, if_false, true_and] at hw1 hw2 hw3 ⊢; exact ⟨f0, f1, g0, g1, m', hw1, hw2, hw3, rfl, rfl, hR3⟩)
 ·simp only [seval, go_sem]
  refine gO ?_
  refine tT ?_; refine callW 1000 (l9say_n0 c link e0 e1 n0 n1 m ⟨5, 0, at_, vv, data⟩ (.slice Av data.length kv) z hv hR hI hm (by omega) (by omega) rfl (.inr (.inl rfl))) rfl rfl rfl rfl ?_; rintro u z1 A' hz1 ⟨f0, f1, g0, g1, m', hw1, hw2, hw3, rfl, rfl, hR3⟩; refine gO ?_
  refine fQ ?_
  rw [stepn_say0 c link e0 e1 n0 n1 _ hm (.inr (.inl rfl)) rfl]
  first
   | exact ⟨f0, f1, g0, g1, m', hw1, hw2, hw3, rfl, rfl, hR3⟩
   | (simp only [seval, if_false, true_and] at hw1 hw2 hw3 ⊢; exact ⟨f0, f1, g0, g1, m', hw1, hw2, hw3, rfl, rfl, hR3⟩)
 ·simp only [seval, go_sem]
  refine gO ?_
  refine tT ?_; refine callW 1000 (l9say_n0 c link e0 e1 n0 n1 m ⟨6, 0, at_, vv, data⟩ (.slice Av data.length kv) z hv hR hI hm (by omega) (by omega) rfl (.inr (.inr rfl))) rfl rfl rfl rfl ?_; rintro u z1 A' hz1 ⟨f0, f1, g0, g1, m', hw1, hw2, hw3, rfl, rfl, hR3⟩; refine gO ?_
  refine fQ ?_
  rw [stepn_say0 c link e0 e1 n0 n1 _ hm (.inr (.inr rfl)) rfl]
  first
   | exact ⟨f0, f1, g0, g1, m', hw1, hw2, hw3, rfl, rfl, hR3⟩
   | (simp only [seval, if_false, true_and] at hw1 hw2 hw3 ⊢; exact ⟨f0, f1, g0, g1, m', hw1, hw2, hw3, rfl, rfl, hR3⟩)
 ·simp only [seval, go_sem]
  refine gO ?_
  refine tT ?_; refine callW 1000 (l9net_n0 c link e0 e1 n0 n1 m ⟨7, 0, at_, vv, data⟩ (.slice Av data.length kv) z hv hR hI hN hNw hm rfl (.inl rfl)) rfl rfl rfl rfl ?_; rintro u z1 A' hz1 ⟨f0, f1, g0, g1, m', hw1, hw2, hw3, rfl, rfl, hR3⟩; refine gO ?_
  refine fQ ?_
  rw [stepn_hear0 c link e0 e1 n0 n1 _ hm rfl rfl]
  exact ⟨f0, f1, g0, g1, m', hw1, hw2, hw3, rfl, rfl, hR3⟩
 ·simp only [seval, go_sem]
  refine gO ?_
  refine tT ?_; refine callW 1000 (l9net_n0 c link e0 e1 n0 n1 m ⟨8, 0, at_, vv, data⟩ (.slice Av data.length kv) z hv hR hI hN hNw hm rfl (.inr rfl)) rfl rfl rfl rfl ?_; rintro u z1 A' hz1 ⟨f0, f1, g0, g1, m', hw1, hw2, hw3, rfl, rfl, hR3⟩; refine gO ?_
  refine fQ ?_
  rw [step_lose0 c link e0 e1 n0 n1 _ rfl rfl]
  exact ⟨f0, f1, g0, g1, m', hw1, hw2, hw3, rfl, rfl, hR3⟩
theorem l9step_b0 (c : Cfg) (link : Int) (e0 e1 : End) (n0 n1 : List Msg) (m : WM) (ev : Evt) (v : Value) (z : Zc) (hv : By z ev.data v) (hR : WldR z e0 e1 n0 n1 m) (hW : WldI ⟨c, [e0, e1], [n0, n1], link⟩) (hw : ev.who = 0) (hk : ev.kind = 9) :
  Spec Tryz.prog 63 [wldV c link m, vEvt ev v] z (wldA e0 e1 n0 n1 m) (WldH c (step true ⟨c, [e0, e1], [n0, n1], link⟩ ev)) := by
 have hN : NetI n0 := hW.net 0 (by omega)
 rw [step_bend0 c link e0 e1 n0 n1 ev hk hw]
 obtain ⟨kind, who, at_, vv, data⟩ := ev
 dsimp only at *
 subst hw
 subst hk
 obtain ⟨Av, kv, rfl, hkv, hBv, hrv⟩ := hv.form
 refine eB k63 ?_
 refine gO ?_
 refine tT ?_; refine callP (in_s 0 0 1 z) rfl rfl ?_; rintro _ _ - ⟨rfl, rfl⟩; refine gO ?_
 simp only [seval, go_sem, show inB 0 0 1 = true from rfl, show inB 1 0 1 = true from rfl]
 refine gO ?_
 refine tT ?_; refine callW 1000 (l9bend0 c link e0 e1 n0 n1 m ⟨9, 0, at_, vv, data⟩ (.slice Av data.length kv) z hv hR hN rfl rfl) rfl rfl rfl rfl ?_; rintro u z1 A' hz1 ⟨f0, f1, g0, g1, m', hw1, hw2, hw3, rfl, rfl, hR3⟩; refine gO ?_
 refine fQ ?_
 exact ⟨f0, f1, g0, g1, m', hw1, hw2, hw3, rfl, rfl, hR3⟩
theorem l9step_n1 (c : Cfg) (link : Int) (e0 e1 : End) (n0 n1 : List Msg) (m : WM) (ev : Evt) (v : Value) (z : Zc) (hv : By z ev.data v) (hd : ev.data.length ≤ 100000) (hR : WldR z e0 e1 n0 n1 m) (hW : WldI ⟨c, [e0, e1], [n0, n1], link⟩) (hm : c.mode = 1) (hw : ev.who = 1) (hk : 1 ≤ ev.kind ∧ ev.kind ≤ 8) :
  Spec Tryz.prog 63 [wldV c link m, vEvt ev v] z (wldA e0 e1 n0 n1 m) (WldH c (step true ⟨c, [e0, e1], [n0, n1], link⟩ ev)) := by
 have hI : EndI c e1 := hW.ends 1 (by omega)
 have hN : NetI n1 := hW.net 1 (by omega)
 have hNw : NetI n0 := hW.net 0 (by omega)
 have hp60 := hI.put.1
 have hn30 := hNw.1
 have hn30' := hN.1
 obtain ⟨kind, who, at_, vv, data⟩ := ev
 dsimp only at *
 subst hw
 obtain ⟨Av, kv, rfl, hkv, hBv, hrv⟩ := hv.form
 refine eB k63 ?_
 refine gO ?_
 refine tT ?_; refine callP (in_s 1 0 1 z) rfl rfl ?_; rintro _ _ - ⟨rfl, rfl⟩; refine gO ?_
 simp only [seval, go_sem, show inB 0 0 1 = true from rfl, show inB 1 0 1 = true from rfl]
 refine gO ?_
 have hk8 : kind = 1 ∨ kind = 2 ∨ kind = 3 ∨ kind = 4 ∨ kind = 5 ∨ kind = 6 ∨ kind = 7 ∨ kind = 8 := by omega
 rcases hk8 with rfl | rfl | rfl | rfl | rfl | rfl | rfl | rfl
 ·simp only [seval, go_sem]
  refine gO ?_
  by_cases h60 : e1.put.length < 60
  ·refine tT ?_; refine callW 1000 (l9put_n1 c link e0 e1 n0 n1 m data (.slice Av data.length kv) z hR hI hv hd hm h60) rfl rfl rfl rfl ?_; rintro u z1 A' hz1 ⟨e', he', hH⟩; refine gO ?_
   obtain ⟨f0, f1, g0, g1, m', hw1, hw2, hw3, rfl, rfl, hR3⟩ := hH
   refine fQ ?_
   rw [stepn_put1 c link e0 e1 n0 n1 _ hm rfl rfl, if_pos h60]
   subst he'
   exact ⟨f0, f1, g0, g1, m', hw1, hw2, hw3, rfl, rfl, hR3⟩
  ·refine tT ?_; refine callW 1000 (l9put_f1 c link e0 e1 n0 n1 m (.slice Av data.length kv) z hR data hv (by omega)) rfl rfl rfl rfl ?_; rintro u z1 A' hz1 ⟨f0, f1, g0, g1, m', hw1, hw2, hw3, rfl, rfl, hR3⟩; refine gO ?_
   refine fQ ?_
   rw [stepn_put1 c link e0 e1 n0 n1 _ hm rfl rfl, if_neg h60]
   exact ⟨f0, f1, g0, g1, m', hw1, hw2, hw3, rfl, rfl, hR3⟩
 ·simp only [seval, go_sem]
  refine gO ?_
  refine tT ?_; refine callW 1000 (l9send_n1 c link e0 e1 n0 n1 m z hR hI hm hn30) rfl rfl rfl rfl ?_; rintro u z1 A' hz1 ⟨f0, f1, g0, g1, m', hw1, hw2, hw3, rfl, rfl, hR3⟩; refine gO ?_
  refine fQ ?_
  rw [stepn_send1 c link e0 e1 n0 n1 _ hm rfl rfl]
  exact ⟨f0, f1, g0, g1, m', hw1, hw2, hw3, rfl, rfl, hR3⟩
 ·simp only [seval, go_sem]
  refine gO ?_
  refine tT ?_; refine callW 1000 (l9tick_n1 c link e0 e1 n0 n1 m z hR hI hm hn30) rfl rfl rfl rfl ?_; rintro u z1 A' hz1 ⟨f0, f1, g0, g1, m', hw1, hw2, hw3, rfl, rfl, hR3⟩; refine gO ?_
  refine fQ ?_
  rw [stepn_tick1 c link e0 e1 n0 n1 _ hm rfl rfl]
  exact ⟨f0, f1, g0, g1, m', hw1, hw2, hw3, rfl, rfl, hR3⟩
 ·simp only [seval, go_sem]
  refine gO ?_
  refine tT ?_; refine callW 1000 (l9say_n1 c link e0 e1 n0 n1 m ⟨4, 1, at_, vv, data⟩ (.slice Av data.length kv) z hv hR hI hm (by omega) (by omega) rfl (.inl rfl)) rfl rfl rfl rfl ?_; rintro u z1 A' hz1 ⟨f0, f1, g0, g1, m', hw1, hw2, hw3, rfl, rfl, hR3⟩; refine gO ?_
  refine fQ ?_
  rw [stepn_say1 c link e0 e1 n0 n1 _ hm (.inl rfl) rfl]
  first
   | exact ⟨f0, f1, g0, g1, m', hw1, hw2, hw3, rfl, rfl, hR3⟩
   | (simp only [seval, if_false, true_and] at hw1 hw2 hw3 ⊢; exact ⟨f0, f1, g0, g1, m', hw1, hw2, hw3, rfl, rfl, hR3⟩)
 ·simp only [seval, go_sem]
  refine gO ?_
  refine tT ?_; refine callW 1000 (l9say_n1 c link e0 e1 n0 n1 m ⟨5, 1, at_, vv, data⟩ (.slice Av data.length kv) z hv hR hI hm (by omega) (by omega) rfl (.inr (.inl rfl))) rfl rfl rfl rfl ?_; rintro u z1 A' hz1 ⟨f0, f1, g0, g1, m', hw1, hw2, hw3, rfl, rfl, hR3⟩; refine gO ?_
  refine fQ ?_
  rw [stepn_say1 c link e0 e1 n0 n1 _ hm (.inr (.inl rfl)) rfl]
  first
   | exact ⟨f0, f1, g0, g1, m', hw1, hw2, hw3, rfl, rfl, hR3⟩
   | (simp only [seval, if_false, true_and] at hw1 hw2 hw3 ⊢; exact ⟨f0, f1, g0, g1, m', hw1, hw2, hw3, rfl, rfl, hR3⟩)
 ·simp only [seval, go_sem]
  refine gO ?_
  refine tT ?_; refine callW 1000 (l9say_n1 c link e0 e1 n0 n1 m ⟨6, 1, at_, vv, data⟩ (.slice Av data.length kv) z hv hR hI hm (by omega) (by omega) rfl (.inr (.inr rfl))) rfl rfl rfl rfl ?_; rintro u z1 A' hz1 ⟨f0, f1, g0, g1, m', hw1, hw2, hw3, rfl, rfl, hR3⟩; refine gO ?_
  refine fQ ?_
  rw [stepn_say1 c link e0 e1 n0 n1 _ hm (.inr (.inr rfl)) rfl]
  first
   | exact ⟨f0, f1, g0, g1, m', hw1, hw2, hw3, rfl, rfl, hR3⟩
   | (simp only [seval, if_false, true_and] at hw1 hw2 hw3 ⊢; exact ⟨f0, f1, g0, g1, m', hw1, hw2, hw3, rfl, rfl, hR3⟩)
 ·simp only [seval, go_sem]
  refine gO ?_
  refine tT ?_; refine callW 1000 (l9net_n1 c link e0 e1 n0 n1 m ⟨7, 1, at_, vv, data⟩ (.slice Av data.length kv) z hv hR hI hN hNw hm rfl (.inl rfl)) rfl rfl rfl rfl ?_; rintro u z1 A' hz1 ⟨f0, f1, g0, g1, m', hw1, hw2, hw3, rfl, rfl, hR3⟩; refine gO ?_
  refine fQ ?_
  rw [stepn_hear1 c link e0 e1 n0 n1 _ hm rfl rfl]
  exact ⟨f0, f1, g0, g1, m', hw1, hw2, hw3, rfl, rfl, hR3⟩
 ·simp only [seval, go_sem]
  refine gO ?_
  refine tT ?_; refine callW 1000 (l9net_n1 c link e0 e1 n0 n1 m ⟨8, 1, at_, vv, data⟩ (.slice Av data.length kv) z hv hR hI hN hNw hm rfl (.inr rfl)) rfl rfl rfl rfl ?_; rintro u z1 A' hz1 ⟨f0, f1, g0, g1, m', hw1, hw2, hw3, rfl, rfl, hR3⟩; refine gO ?_
  refine fQ ?_
  rw [step_lose1 c link e0 e1 n0 n1 _ rfl rfl]
  exact ⟨f0, f1, g0, g1, m', hw1, hw2, hw3, rfl, rfl, hR3⟩
theorem l9step_b1 (c : Cfg) (link : Int) (e0 e1 : End) (n0 n1 : List Msg) (m : WM) (ev : Evt) (v : Value) (z : Zc) (hv : By z ev.data v) (hR : WldR z e0 e1 n0 n1 m) (hW : WldI ⟨c, [e0, e1], [n0, n1], link⟩) (hw : ev.who = 1) (hk : ev.kind = 9) :
  Spec Tryz.prog 63 [wldV c link m, vEvt ev v] z (wldA e0 e1 n0 n1 m) (WldH c (step true ⟨c, [e0, e1], [n0, n1], link⟩ ev)) := by
 have hN : NetI n1 := hW.net 1 (by omega)
 rw [step_bend1 c link e0 e1 n0 n1 ev hk hw]
 obtain ⟨kind, who, at_, vv, data⟩ := ev
 dsimp only at *
 subst hw
 subst hk
 obtain ⟨Av, kv, rfl, hkv, hBv, hrv⟩ := hv.form
 refine eB k63 ?_
 refine gO ?_
 refine tT ?_; refine callP (in_s 1 0 1 z) rfl rfl ?_; rintro _ _ - ⟨rfl, rfl⟩; refine gO ?_
 simp only [seval, go_sem, show inB 0 0 1 = true from rfl, show inB 1 0 1 = true from rfl]
 refine gO ?_
 refine tT ?_; refine callW 1000 (l9bend1 c link e0 e1 n0 n1 m ⟨9, 1, at_, vv, data⟩ (.slice Av data.length kv) z hv hR hN rfl rfl) rfl rfl rfl rfl ?_; rintro u z1 A' hz1 ⟨f0, f1, g0, g1, m', hw1, hw2, hw3, rfl, rfl, hR3⟩; refine gO ?_
 refine fQ ?_
 exact ⟨f0, f1, g0, g1, m', hw1, hw2, hw3, rfl, rfl, hR3⟩
def StepE (M K : Int) : Prop := ∀ (c : Cfg) (link : Int) (e0 e1 : End) (n0 n1 : List Msg) (m : WM) (ev : Evt) (v : Value) (z : Zc), By z ev.data v → ev.data.length ≤ 100000 → WldR z e0 e1 n0 n1 m → WldI ⟨c, [e0, e1], [n0, n1], link⟩ → c.mode = M → (ev.who = 0 ∨ ev.who = 1) → (1 ≤ ev.kind ∧ ev.kind ≤ K) →
  Spec Tryz.prog 63 [wldV c link m, vEvt ev v] z (wldA e0 e1 n0 n1 m) (WldH c (step true ⟨c, [e0, e1], [n0, n1], link⟩ ev))
set_option maxHeartbeats 2000000
def EvD (ev : Evt) : Prop := (1 ≤ ev.kind ∧ ev.kind ≤ 11) ∧ (ev.who = 0 ∨ ev.who = 1) ∧ ev.data.length ≤ 100
theorem EvC.d {ev : Evt} (h : EvC ev) : EvD ev := ⟨⟨h.1.1, by have := h.1.2; omega⟩, h.2⟩
set_option maxHeartbeats 4000000
def PlayG (Q : Evt → Prop) (M : Int) (v : Value) (z : Zc) (A : Asrt) : Prop := ∃ (c : Cfg) (evs : List Evt) (B : Option Addr) (k : Nat) (link : Int) (m : WM) (e0 e1 : End) (n0 n1 : List Msg), v = .tuple #[vCfg c, .slice B evs.length k, wldV c link m] ∧ A = wldA e0 e1 n0 n1 m ∧ WldR z e0 e1 n0 n1 m ∧ WldI ⟨c, [e0, e1], [n0, n1], link⟩ ∧ Sl eRep z evs (.slice B evs.length k) ∧ CfgI c ∧ (0 < M → c.mode = M) ∧ (∀ e ∈ evs, Q e) ∧ evs.length ≤ 140
def DrawE (Q : Evt → Prop) (hard inj : Bool) : Prop := ∀ (b : Nat) (A : Option Addr) (cc : Nat) (code : List Int) (p : Int) (c : Cfg) (link : Int) (m : WM) (z : Zc), By z code (.slice A code.length cc) → (0 ≤ p ∧ p ≤ 800000) → code.length ≤ 2000 → (1 ≤ c.mtu ∧ c.mtu ≤ 24) →
  Spec Tryz.prog 62 [.pointer (some ⟨b, 0, none⟩), wldV c link m, .bool hard, .bool inj] z (starL [rdA b A code.length cc p]) fun v z' A' => ∃ (ev : Evt) (B : Option Addr) (n k : Nat) (p' : Int), v = vEvt ev (.slice B n k) ∧ A' = starL [rdA b A code.length cc p'] ∧ By z' ev.data (.slice B n k) ∧ EvD ev ∧ Q ev ∧ p ≤ p' ∧ p' ≤ p + 200
set_option linter.defProp false
def k39 := mkK [(.t 4)] [] [(2,[],.l [1,6,8,12,17,22,24,28,32,37,42,44,48,52,57,60,65,72,70,76,80,84,88,92,97,100,104,108,112,117,120,126,128,132,136,141,144,148,152,156,160,165,168,173,178,180,184,188,193,198,200,204,208,213,220,225,218,228,232,236,241,244,249,254,256,260,265,268,273,278,280,284])] Tryz.func39 Tryz.ntmps39 rfl
def k99 := mkK [(.c 2 10 true)] [] [(1,[],.l [0,5,12,17,10,24,22,31,32,39])] Tryz.func99 Tryz.ntmps99 rfl
def k138 := mkK [(.c 6 10 true),(.t 7)] [] [] Tryz.func138 Tryz.ntmps138 rfl
def k163 := mkK [(.c 6 9 true),(.t 7)] [] [(5,[],.l [0,4,8,12,17,20,24,28,33,36,41,46,50,52,56,63]),(8,[],.l [0,4,8,13,16,20,24,29,32,37,42,47]),(9,[],.f [0,4,8,13,16,20,24,29,32,36,40,44,49,52,57,60,65] (.l [70,72,78,83]) (.l [78,70,72,83]))] Tryz.func163 Tryz.ntmps163 rfl
def k139 := mkK [(.c 6 10 true),(.c 7 9 true),(.t 8)] [] [(5,[6,7],.l [1,9,12,6,18,22,24])] Tryz.func139 Tryz.ntmps139 rfl
def k133 := mkK [(.c 6 10 true)] [] [] Tryz.func133 Tryz.ntmps133 rfl
def k141 := mkK [(.c 8 10 true),(.c 9 9 true),(.t 10)] [] [(11,[8,9],.l [1,4,8,14,16,22,26,28])] Tryz.func141 Tryz.ntmps141 rfl
def k40 := mkK [(.t 2)] [] [(1,[],.l [0,5,10,12,16,21,26,28,32,36,41,48,53,46,56,60,64,68,73,78,80,84])] Tryz.func40 Tryz.ntmps40 rfl
def k100 := mkK [(.c 2 7 true)] [] [] Tryz.func100 Tryz.ntmps100 rfl
def k165 := mkK [(.c 6 9 true)] [] [] Tryz.func165 Tryz.ntmps165 rfl
def k160 := mkK [(.t 6),(.t 7)] [] [(5,[],.l [0,4,9,12,16,20,25,30,34,40,38,44]),(8,[],.l [0,5,8,12,16,21,24,28]),(12,[],.f [0,4,8,13,16,21,24,29,32,37,40] (.l [46,48,52,56,60,66,71,72,76]) (.l [66,46,48,52,56,60,71,72,76])),(22,[],.l [0,4,8,13,16,21,28,33,26,36,40,44,48,52,57,60,64,68])] Tryz.func160 Tryz.ntmps160 rfl
def k134 := mkK [(.c 6 7 true),(.t 7),(.t 8)] [] [] Tryz.func134 Tryz.ntmps134 rfl
def k142 := mkK [(.c 4 7 true),(.t 5)] [] [(7,[4],.f [1,5,8,14,18] (.l [22,26,28]) (.l [26,22,28]))] Tryz.func142 Tryz.ntmps142 rfl
def k143 := mkK [(.c 2 9 true)] [] [(3,[2],.l [1,4,9,14,18,22])] Tryz.func143 Tryz.ntmps143 rfl
end Go.Proofs.YtllafcmkppmdgaaGreat
