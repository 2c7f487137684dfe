/- Lists looked through, and copied. · Codes of functions, group Crd. · Credits: what is ok, copies. · Credits, by the program. · Who grants credits hears, by the program. · Credits, by the reference. · Who grants credits hears, by the reference. · Codes of functions, group Tx. -/
import Derived.Test.YtpblmlaahapohaaGreatB9
import Derived.Test.YtpblmlaahapohaaGreatB3
import Derived.Test.YtpblmlaahapohaaGreatProg
import Derived.Test.YtpblmlaahapohaaGreatB4
import Derived.Test.YtpblmlaahapohaaGreatB6
import Derived.Test.YtpblmlaahapohaaGreatB7
namespace Go.Proofs.YtpblmlaahapohaaGreat
open Go.RowKit
set_option linter.unusedVariables false
set_option linter.unusedSimpArgs false
set_option maxRecDepth 100000
set_option maxHeartbeats 1000000
theorem putV_app {c r ds : List Value} {n o : Nat} (h : c.length = n) : putV (c ++ r) (n + o) ds = c ++ putV r o ds := by
  subst h
  simp [putV, List.take_append, List.drop_append, Nat.add_assoc, List.take_of_length_le, List.drop_of_length_le]
theorem putV_app' {c r ds : List Value} {o : Nat} (h : o + ds.length ≤ c.length) : putV (c ++ r) o ds = putV c o ds ++ r := by
  unfold putV
  rw [List.take_append_of_le_length (by omega), List.drop_append_of_le_length h]
  simp
theorem Els.put {α : Type} {d : Rep α} {z : Zc} {y : α} {ds : List Value} {o : Nat} : ∀ {xs : List α} {cs : List Value} {k : Nat}, Els d z xs cs → ∀ {x : α}, xs[k]? = some x → (∀ c, d.K z x c → d.K z y (putV c o ds)) → o + ds.length ≤ d.sz → Els d z (xs.set k y) (putV cs (k * d.sz + o) ds)
  | [], cs, k, h, x, hk, hy, ho => by simp at hk
  | x0 :: xs, cs, 0, h, x, hk, hy, ho => by
    obtain ⟨c, r, rfl, h1, h2⟩ := h
    simp only [List.getElem?_cons_zero, Option.some.injEq] at hk
    subst hk
    rw [Nat.zero_mul, Nat.zero_add, putV_app' (by rw [d.len h1]; exact ho)]
    exact ⟨_, r, rfl, hy c h1, h2⟩
  | x0 :: xs, cs, k + 1, h, x, hk, hy, ho => by
    obtain ⟨c, r, rfl, h1, h2⟩ := h
    simp only [List.getElem?_cons_succ] at hk
    rw [Nat.succ_mul, show k * d.sz + d.sz + o = d.sz + (k * d.sz + o) by omega, putV_app (d.len h1)]
    exact ⟨c, _, rfl, h1, h2.put hk hy ho⟩
theorem set_same {α : Type} {l : List α} {k : Nat} {x : α} (h : l[k]? = some x) : l.set k x = l := by
  obtain ⟨hk, e⟩ := List.getElem?_eq_some_iff.1 h
  rw [← e]; exact List.set_getElem_self hk
theorem Els.data {z : Zc} {l : List Part} {cs : List Value} {k : Nat} {p : Part} {v : Value} (h : Els pRep z l cs) (hk : l[k]? = some p) (hv : By z p.data v) : Els pRep z l (putV cs (k * 3 + 2) [v]) := by
  have := h.put (k := k) (y := p) (ds := [v]) (o := 2) hk (fun c hc => by obtain ⟨u, rfl, _⟩ := hc; exact ⟨v, rfl, hv⟩) (Nat.le_refl 3)
  rwa [set_same hk] at this
theorem vsI.formR {P : Program} {ic : IC} {K : Exit → St → Prop} {s : St} (k : Nat) {e sz n : Nat} {v : Value} {cs : List Value} (hk : look k s.L = some (.own (rowA e sz v n cs))) (h : ∀ A c, v = .slice A n c → n ≤ c → vsI P ic K s) : vsI P ic K s := fun C ρ a w hs => by
  obtain ⟨F, hh, hw⟩ := hs.mem
  obtain ⟨F1, F2, ⟨hrow, _⟩, _⟩ := hh.pick hk
  obtain ⟨A', c', e1, e2, _⟩ := hrow.rd
  exact h A' c' e1 e2 C ρ a w hs
theorem FinV.atR {fr : List FR} {s : St} {R : Value → Zc → Asrt → Prop} (k : Nat) {e sz n c : Nat} {A : Option Addr} {cs : List Value} (hk : look k s.L = some (.own (rowA e sz (.slice A n c) n cs))) (hn : 0 < n) (h : IsAt A → FinV fr s R) : FinV fr s R := fun C ρ a w hs => by
  obtain ⟨F, hh, hw⟩ := hs.mem
  obtain ⟨F1, F2, ⟨hrow, _⟩, _⟩ := hh.pick hk
  rcases hrow.2 with ⟨_, e0⟩ | ⟨g, o, cap, cur, e1, _⟩
  · omega
  · injection e1 with e1 _ _
    exact h ⟨g, o, e1⟩ C ρ a w hs
theorem FinV.formR {fr : List FR} {s : St} {R : Value → Zc → Asrt → Prop} (k : Nat) {e sz n : Nat} {v : Value} {cs : List Value} (hk : look k s.L = some (.own (rowA e sz v n cs))) (h : ∀ A c, v = .slice A n c → n ≤ c → FinV fr s R) : FinV fr s R := fun C ρ a w hs => by
  obtain ⟨F, hh, hw⟩ := hs.mem
  obtain ⟨F1, F2, ⟨hrow, _⟩, _⟩ := hh.pick hk
  obtain ⟨A', c', e1, e2, _⟩ := hrow.rd
  exact h A' c' e1 e2 C ρ a w hs
structure LstS where
  i : Nat
  v : Value
  cs : List Value
  z : Zc
theorem atyS : AppTy Tryz.prog 51 22 1 := AppTy.of (by kernel_rfl)
theorem l6list_s (l : List Part) (v : Value) (z : Zc) (h : Sl pRep z l v) (hl : l.length ≤ 1000000) (hp : ∀ p ∈ l, p.data.length ≤ 1000000000) :
    Spec Tryz.prog 108 [v] z emp fun u z' A' => ∃ A c cs, u = .slice A l.length c ∧ A' = rowA 123 3 (.slice A l.length c) l.length cs ∧ l.length ≤ c ∧ Els pRep z' l cs := by
  obtain ⟨A, k, cs, rfl, hk, he, hr⟩ := h
  (refine spec_enter0 Tryz.func108 ic108_ok fr108_ok Tryz.ntmps108 ?_; simp only [seval, go_sem, ic108, fr108])
  refine gO ?_
  refine loopV.toRow 90 0 rfl rfl (m := 0) (sz := 3) rfl (by omega) (fun b0 => ?_)
  simp only [seval, go_sem, rowSt, subV, subC, subE, subL]
  refine loop_upd (ι := LstS) (n := 1) (fun i => z ≤ i.z ∧ i.i ≤ l.length ∧ Els pRep i.z (l.take i.i) i.cs) (fun i => [(4, .c (.v (.int .i64 i.i))), (3, .c (.v i.v))]) (fun i => [(90, .own (rowA 123 3 i.v i.i i.cs))]) (fun i => i.z) (fun i => l.length - i.i) ⟨0, .slice (some ⟨b0, 0, none⟩) 0 0, [], z⟩ ⟨Zc.rfl' _, by simp, rfl⟩ (by (simp only [wrI, wrR, anyL, st, List.append_nil, List.nil_append, List.cons_append]); exact rfl) ?_ ?_
  · exact lE
  · rintro ⟨i, v, ds, z1⟩ ⟨hz1, hi, hd⟩
    dsimp only at *
    refine gO ?_
    (with_reducible refine condI.split (fun hg => ?_) (fun hg => ?_) <;> (try simp only [hg]) <;> (try simp only [seval, go_sem]))
    · refine gO ?_
      have hi' : i < l.length := by simp at hg; omega
      obtain ⟨x, hx⟩ : ∃ x, l[i]? = some x := ⟨_, List.getElem?_eq_getElem hi'⟩
      obtain ⟨c1, ⟨v, rfl, hb⟩, hr1⟩ := (he.mono hz1).at (hr.mono hz1) hx
      obtain ⟨A1, c1, rfl, hc1, hB1, hrb⟩ := hb.form
      have hat : IsAt A := he.isAt hr (by decide) hi'
      (refine ⟨⟨by omega, by omega, hat⟩, ?_⟩; (try simp only [seval, go_sem]))
      (refine ldF.one _ (by first | exact .inl (hr1.cell 0 rfl) | exact (hr1.cell 0 rfl)) ?_; (try simp only [seval, go_sem]))
      (refine ⟨⟨by omega, by omega, hat⟩, ?_⟩; (try simp only [seval, go_sem]))
      (refine ldF.one _ (by first | exact .inl (hr1.cell 1 rfl) | exact (hr1.cell 1 rfl)) ?_; (try simp only [seval, go_sem]))
      (refine ⟨⟨by omega, by omega, hat⟩, ?_⟩; (try simp only [seval, go_sem]))
      (refine ldF.one _ (by first | exact .inl (hr1.cell 2 rfl) | exact (hr1.cell 2 rfl)) ?_; (try simp only [seval, go_sem]))
      have hxp := hp x (List.mem_of_getElem? hx)
      refine aT ?_; (refine appM_empty 99 atyB rfl (by first | exact .inl ⟨_, rfl⟩ | exact .inr ⟨_, _, rfl⟩) rfl hrb (by first | omega | (simp <;> omega)) (bc_one _) (by omega) (fun A2 c2 z2 hz2 hc2 hr2 => ?_)); dsimp only at hz2; refine gO ?_
      refine aT ?_; (refine appM_new 90 atyP rfl rfl rfl rfl rfl rfl rfl (by simp [Value.oneCell']) (by omega) (fun v3 => ?_)); refine gO ?_
      refine ⟨⟨i + 1, v3, ds ++ [.int .i64 x.seg, .int .i64 x.len, .slice A2 x.data.length c2], z2⟩, ⟨Zc.trans' hz1 hz2, by dsimp only; omega, ?_⟩, by dsimp only; omega, ?_⟩
      rotate_left
      · exact lE
      · dsimp only
        rw [List.take_add_one, hx]
        exact (hd.mono hz2).append (Els.single ⟨_, rfl, By.mk hc2 hB1 hr2⟩)
    · refine gO ?_
      refine FinV.formR 90 rfl fun A3 c3 hv3 hc3 => ?_
      subst hv3
      (((try simp only [seval, go_sem]);repeat((with_reducible first|refine vJ ?_|refine vK ?_);try simp only [seval, go_sem])); refine FinV.own 90 rfl ?_; simp only [finE, finS, gt, look, SV.toV, SC.toV, allV, tupV, zq1, zq2, zq3, zq4, Nat.reduceAdd, Nat.reduceEqDiff, reduceCtorEq, if_true, if_false, reduceIte, Nat.succ_ne_self, true_and, zq5, zq7, zq8])
      have : i = l.length := by simp at hg; omega
      subst this
      exact ⟨_, _, _, rfl, rfl, hc3, by simpa using hd⟩
theorem l7sdus_s (l : List (List Int)) (v : Value) (z : Zc) (h : Sl sduRep z l v) (hl : l.length ≤ 1000000) (hp : ∀ p ∈ l, p.length ≤ 1000000000) :
    Spec Tryz.prog 75 [v] z emp fun u z' A' => ∃ A c cs, u = .slice A l.length c ∧ A' = rowA 22 1 (.slice A l.length c) l.length cs ∧ l.length ≤ c ∧ Els sduRep z' l cs := by
  obtain ⟨A, k, cs, rfl, hk, he, hr⟩ := h
  (refine spec_enter0 Tryz.func75 ic75_ok fr75_ok Tryz.ntmps75 ?_; simp only [seval, go_sem, ic75, fr75])
  refine gO ?_
  refine loopV.toRow 90 0 rfl rfl (m := 0) (sz := 1) rfl (by omega) (fun b0 => ?_)
  simp only [seval, go_sem, rowSt, subV, subC, subE, subL]
  refine loop_upd (ι := LstS) (n := 1) (fun i => z ≤ i.z ∧ i.i ≤ l.length ∧ Els sduRep i.z (l.take i.i) i.cs) (fun i => [(4, .c (.v (.int .i64 i.i))), (3, .c (.v i.v))]) (fun i => [(90, .own (rowA 22 1 i.v i.i i.cs))]) (fun i => i.z) (fun i => l.length - i.i) ⟨0, .slice (some ⟨b0, 0, none⟩) 0 0, [], z⟩ ⟨Zc.rfl' _, by simp, rfl⟩ (by (simp only [wrI, wrR, anyL, st, List.append_nil, List.nil_append, List.cons_append]); exact rfl) ?_ ?_
  · exact lE
  · rintro ⟨i, v, ds, z1⟩ ⟨hz1, hi, hd⟩
    dsimp only at *
    refine gO ?_
    (with_reducible refine condI.split (fun hg => ?_) (fun hg => ?_) <;> (try simp only [hg]) <;> (try simp only [seval, go_sem]))
    · refine gO ?_
      have hi' : i < l.length := by simp at hg; omega
      obtain ⟨x, hx⟩ : ∃ x, l[i]? = some x := ⟨_, List.getElem?_eq_getElem hi'⟩
      obtain ⟨c1, ⟨v, rfl, hb⟩, hr1⟩ := (he.mono hz1).at (hr.mono hz1) hx
      obtain ⟨A1, c1, rfl, hc1, hB1, hrb⟩ := By.form hb
      have hat : IsAt A := he.isAt hr (by decide) hi'
      (refine ⟨⟨by omega, by omega, hat⟩, ?_⟩; (try simp only [seval, go_sem]))
      (refine ldF.one _ (by first | exact .inl hr1 | exact hr1) ?_; (try simp only [seval, go_sem]))
      have hxp := hp x (List.mem_of_getElem? hx)
      refine aT ?_; (refine appM_empty 99 atyB rfl (by first | exact .inl ⟨_, rfl⟩ | exact .inr ⟨_, _, rfl⟩) rfl hrb (by first | omega | (simp <;> omega)) (bc_one _) (by omega) (fun A2 c2 z2 hz2 hc2 hr2 => ?_)); dsimp only at hz2; refine gO ?_
      refine aT ?_; (refine appM_new 90 atyS rfl rfl rfl rfl rfl rfl rfl (by simp [Value.oneCell']) (by omega) (fun v3 => ?_)); refine gO ?_
      refine ⟨⟨i + 1, v3, ds ++ [.slice A2 x.length c2], z2⟩, ⟨Zc.trans' hz1 hz2, by dsimp only; omega, ?_⟩, by dsimp only; omega, ?_⟩
      rotate_left
      · exact lE
      · dsimp only
        rw [List.take_add_one, hx]
        exact (hd.mono hz2).append (Els.single ⟨_, rfl, By.mk hc2 hB1 hr2⟩)
    · refine gO ?_
      refine FinV.formR 90 rfl fun A3 c3 hv3 hc3 => ?_
      subst hv3
      (((try simp only [seval, go_sem]);repeat((with_reducible first|refine vJ ?_|refine vK ?_);try simp only [seval, go_sem])); refine FinV.own 90 rfl ?_; simp only [finE, finS, gt, look, SV.toV, SC.toV, allV, tupV, zq1, zq2, zq3, zq4, Nat.reduceAdd, Nat.reduceEqDiff, reduceCtorEq, if_true, if_false, reduceIte, Nat.succ_ne_self, true_and, zq5, zq7, zq8])
      have : i = l.length := by simp at hg; omega
      subst this
      exact ⟨_, _, _, rfl, rfl, hc3, by simpa using hd⟩
theorem scloneO (A : Option Addr) (n c : Nat) (cs : List Value) (z : Zc) (hr : RdAt z A 0 cs) (hl : cs.length = n * 3) (h1 : ∀ u ∈ cs, u.oneCell' = true) (hb : n ≤ 1000000000) :
    Spec Tryz.prog 155 [.slice A n c] z emp fun v z' A' => ∃ A2 c2 B, v = .slice A2 n c2 ∧ n ≤ c2 ∧ A' = rowA 123 3 (.slice B n (if n = 0 then 0 else c2)) n cs ∧ (0 < n → B = A2 ∧ IsAt A2) := by
  (refine spec_enter0 Tryz.func155 ic155_ok fr155_ok Tryz.ntmps155 ?_; simp only [seval, go_sem, ic155, fr155])
  by_cases hn : n = 0
  · subst hn
    have hcs : cs = [] := List.eq_nil_of_length_eq_zero (by omega)
    subst hcs
    refine gO ?_
    (with_reducible refine condI.split (fun hg => ?_) (fun hg => ?_) <;> (try simp only [hg]) <;> (try simp only [seval, go_sem]))
    · refine gO ?_
      refine FinV.tf (Tf.nilRow 90 123 3 rfl) ?_
      dsimp only
      (((try simp only [seval, go_sem]);repeat((with_reducible first|refine vJ ?_|refine vK ?_);try simp only [seval, go_sem])); refine FinV.own 90 rfl ?_; simp only [finE, finS, gt, look, SV.toV, SC.toV, allV, tupV, zq1, zq2, zq3, zq4, Nat.reduceAdd, Nat.reduceEqDiff, reduceCtorEq, if_true, if_false, reduceIte, Nat.succ_ne_self, true_and, zq5, zq7, zq8])
      first | exact ⟨_, _, _, rfl, rfl⟩ | exact ⟨_, _, _, rfl, by omega, rfl⟩ | exact ⟨_, _, _, rfl, rfl, by omega⟩
    · refine gO ?_
      refine aT ?_; (refine appM_zero atyP (by first | exact .inl ⟨_, _, _, Nat.le_refl _, rfl⟩ | exact .inr ⟨_, _, rfl⟩) rfl ?_); refine gO ?_
      (refine FinV.frz 0 rfl rfl (fun b z1 hz1 hr1 => ?_)); dsimp only at hz1; simp only [seval, go_sem, Go.Proofs.YtpblmlaahapohaaGreat.frz, subV, subC, subE, subL]
      refine FinV.tf (Tf.nilRow 90 123 3 rfl) ?_
      dsimp only
      (((try simp only [seval, go_sem]);repeat((with_reducible first|refine vJ ?_|refine vK ?_);try simp only [seval, go_sem])); refine FinV.own 90 rfl ?_; simp only [finE, finS, gt, look, SV.toV, SC.toV, allV, tupV, zq1, zq2, zq3, zq4, Nat.reduceAdd, Nat.reduceEqDiff, reduceCtorEq, if_true, if_false, reduceIte, Nat.succ_ne_self, true_and, zq5, zq7, zq8])
      first | exact ⟨_, _, _, rfl, rfl⟩ | exact ⟨_, _, _, rfl, by omega, rfl⟩ | exact ⟨_, _, _, rfl, rfl, by omega⟩
  · refine gO ?_
    (with_reducible refine condI.split (fun hg => ?_) (fun hg => ?_) <;> (try simp only [hg]) <;> (try simp only [seval, go_sem]))
    · exfalso
      cases A with
      | none => obtain ⟨b, o, e, _⟩ := hr (List.ne_nil_of_length_pos (by omega)); cases e
      | some a => simp at hg
    · refine gO ?_
      refine aT ?_; (refine appM_emptyO 90 atyP rfl (by first | exact .inl ⟨_, rfl⟩ | exact .inr ⟨_, _, rfl⟩) rfl (hr) (by first | omega | (simp <;> omega)) (h1) (by omega) (by omega) (fun A2 c2 hc2 => ?_)); refine gO ?_
      refine FinV.atR 90 rfl (by omega) (fun hat => ?_)
      (((try simp only [seval, go_sem]);repeat((with_reducible first|refine vJ ?_|refine vK ?_);try simp only [seval, go_sem])); refine FinV.own 90 rfl ?_; simp only [finE, finS, gt, look, SV.toV, SC.toV, allV, tupV, zq1, zq2, zq3, zq4, Nat.reduceAdd, Nat.reduceEqDiff, reduceCtorEq, if_true, if_false, reduceIte, Nat.succ_ne_self, true_and, zq5, zq7, zq8])
      exact ⟨A2, c2, A2, rfl, hc2, by rw [if_neg hn], fun _ => ⟨rfl, hat⟩⟩
theorem cloneO (A : Option Addr) (n c : Nat) (cs : List Value) (z : Zc) (hr : RdAt z A 0 cs) (hl : cs.length = n * 3) (h1 : ∀ u ∈ cs, u.oneCell' = true) (hb : n ≤ 1000000000) :
    Spec Tryz.prog 140 [.slice A n c] z emp fun v z' A' => ∃ A2 B, v = .slice A2 n n ∧ A' = rowA 123 3 (.slice B n n) n cs ∧ (0 < n → B = A2 ∧ IsAt A2) := by
  (refine spec_enter0 Tryz.func140 ic140_ok fr140_ok Tryz.ntmps140 ?_; simp only [seval, go_sem, ic140, fr140])
  refine gO ?_
  refine tT ?_; refine callO 90 (scloneO A n c cs z hr hl h1 hb) rfl rfl rfl ?_; rintro v z1 A' hz1 ⟨A2, c2, B, rfl, hc2, rfl, hB⟩; refine gO ?_
  refine tT ?_; refine callP (sclipP A2 n c2 z1 hc2 hb) rfl rfl ?_; rintro v z2 hz2 rfl; refine gO ?_
  refine FinV.tf (Tf.cut 90 rfl rfl 0 n n (by omega) (by omega) (by omega) (by split <;> omega) (.inl rfl)) ?_
  (((try simp only [seval, go_sem]);repeat((with_reducible first|refine vJ ?_|refine vK ?_);try simp only [seval, go_sem])); refine FinV.own 90 rfl ?_; simp only [finE, finS, gt, look, SV.toV, SC.toV, allV, tupV, zq1, zq2, zq3, zq4, Nat.reduceAdd, Nat.reduceEqDiff, reduceCtorEq, if_true, if_false, reduceIte, Nat.succ_ne_self, true_and, zq5, zq7, zq8])
  exact ⟨_, _, rfl, by rw [List.take_of_length_le (by omega)], hB⟩
theorem copyparts_i (l : List Part) (v : Value) (z : Zc) (h : Sl pRep z l v) (hl : l.length ≤ 1000000) (hp : ∀ p ∈ l, p.data.length ≤ 1000000000) :
    PSpec Tryz.prog 109 [v] z fun u z' => ∃ A, u = .slice A l.length l.length ∧ Sl pRep z' l u := by
  obtain ⟨A, k, cs, rfl, hk, he, hr⟩ := h
  (refine pspec_enter Tryz.func109 ic109_ok fr109_ok Tryz.ntmps109 ?_; simp only [seval, go_sem, ic109, fr109])
  refine gO ?_
  refine tT ?_; refine callO 90 (cloneO A l.length k cs z hr he.length he.one (by omega)) rfl rfl rfl ?_; rintro v z1 A' hz1 ⟨A2, B, rfl, rfl, hB⟩; refine gO ?_
  refine loop_upd (ι := LstS) (n := 0) (fun i => z1 ≤ i.z ∧ i.i ≤ l.length ∧ Els pRep i.z l i.cs) (fun i => [(10, .c (.v (.int .i64 i.i)))]) (fun i => [(90, .own (rowA 123 3 (.slice B l.length l.length) l.length i.cs))]) (fun i => i.z) (fun i => l.length - i.i) ⟨0, .slice none 0 0, cs, z1⟩ ⟨Zc.rfl' _, by simp, he.mono hz1⟩ (by (simp only [wrI, wrR, anyL, st, List.append_nil, List.nil_append, List.cons_append]); exact rfl) ?_ ?_
  · exact lE
  · rintro ⟨i, v, ds, z2⟩ ⟨hz2, hi, hd⟩
    dsimp only at *
    refine gO ?_
    (with_reducible refine condI.split (fun hg => ?_) (fun hg => ?_) <;> (try simp only [hg]) <;> (try simp only [seval, go_sem]))
    · refine gO ?_
      have hi' : i < l.length := by simp at hg; omega
      obtain ⟨x, hx⟩ : ∃ x, l[i]? = some x := ⟨_, List.getElem?_eq_getElem hi'⟩
      obtain ⟨rfl, hat⟩ := hB (by omega)
      obtain ⟨c1, ⟨v, rfl, hb⟩, hg1⟩ := hd.get hx
      have hxp := hp x (List.mem_of_getElem? hx)
      obtain ⟨A1, c1, rfl, hc1, hB1, hrb⟩ := hb.form
      (refine ⟨⟨by omega, by omega, hat⟩, ?_⟩; (try simp only [seval, go_sem]))
      (refine ldF.agg _ rfl (by first | exact .inl (.inr ⟨90, _, _, _, _, _, rfl, hg1⟩) | exact (.inr ⟨90, _, _, _, _, _, rfl, hg1⟩)) ?_; (try simp only [seval, go_sem]))
      refine gO ?_
      refine tT ?_; refine callP (cloneBy x.data _ z2 hb (by omega)) rfl rfl ?_; rintro v3 z3 hz3 ⟨A3, rfl, _, hr3⟩; refine gO ?_
      (refine ⟨⟨by omega, by omega, hat⟩, ?_⟩; (try simp only [seval, go_sem]))
      refine stoV_row 90 rfl rfl rfl rfl rfl rfl rfl (by rw [hd.length]; simp; show _ ≤ l.length * 3; omega) ?_
      simp only [seval, go_sem]
      refine gO ?_
      refine ⟨⟨i + 1, .slice none 0 0, putV ds (i * 3 + 2) [.slice A3 x.data.length x.data.length], z3⟩, ⟨Zc.trans' hz2 hz3, by dsimp only; omega, (hd.mono hz3).data hx (By.mk (Nat.le_refl _) hB1 hr3)⟩, by dsimp only; omega, ?_⟩
      exact lE
    · refine gO ?_
      (refine FinV.frzR 90 rfl (fun A4 c4 z4 hv4 hc4 hz4 hr4 => ?_)); dsimp only at hz4; (try subst hv4); simp only [seval, go_sem]
      (first|refine fN ?_|exact fZ)
      refine ⟨_, rfl, ?_⟩
      rcases Nat.eq_zero_or_pos l.length with h0 | h0
      · obtain rfl := List.eq_nil_of_length_eq_zero h0
        exact Sl.nil _ _ _
      · obtain ⟨rfl, _⟩ := hB h0
        injection hv4 with e1 _ e3
        subst e1
        exact ⟨_, _, _, rfl, Nat.le_refl _, hd.mono hz4, hr4⟩
theorem vsI.atR {P : Program} {ic : IC} {K : Exit → St → Prop} {s : St} (k : Nat) {e sz n c : Nat} {A : Option Addr} {cs : List Value} (hk : look k s.L = some (.own (rowA e sz (.slice A n c) n cs))) (h : (0 < n → IsAt A) → vsI P ic K s) : vsI P ic K s := fun C ρ a w hs => by
  obtain ⟨F, hh, hw⟩ := hs.mem
  obtain ⟨F1, F2, ⟨hrow, _⟩, _⟩ := hh.pick hk
  refine h (fun hn => ?_) C ρ a w hs
  rcases hrow.2 with ⟨_, e0⟩ | ⟨g, o, cap, cur, e1, _⟩
  · omega
  · injection e1 with e1 _ _
    exact ⟨g, o, e1⟩
structure CopS where
  i : Nat
  c1 : List Value
  c2 : List Value
  z : Zc
theorem putV_at {c1 c2 : List Value} {i : Nat} {u : Value} (h : c1.length = i) : putV (c1 ++ c2) i [u] = (c1 ++ [u]) ++ c2.drop 1 := by
  subst h; simp [putV, List.take_append, List.drop_append]
set_option maxHeartbeats 4000000
def ic78 : IC := (xR (xt (.box 50 (xr 0)) 1 (xt (.alc 50 [zI, zS, zI, zI, zB]) 2 .done)) (xR (xtF 1 1 3 (xtO 3 4 (xt (.call 109 [xr 4]) 5 (xtF 1 1 6 (xS 6 5 1 .done))))) (xR (xtA 1 5 7 (xS 2 7 5 .done)) .ret)))
theorem ic78_ok : Tryz.f78.body.bind (trC Tryz.prog []) = some ic78 := by kernel_rfl
def fr78 : List FR := [(FR.c 2 5 true)]
theorem fr78_ok : fres Tryz.prog Tryz.f78.results.toList = some fr78 := by kernel_rfl
def ic79 : IC := (xR (xt (.box 43 (xr 0)) 1 (xt (.alc 43 [zI, zI, zS, zB]) 2 .done)) (xR (xtF 1 1 3 (xtF 3 1 4 (xtO 4 5 (xt (.call 36 [xr 5]) 6 (xtF 1 1 7 (xtF 7 1 8 (xS 8 6 1 .done))))))) (xR (xtA 1 4 9 (xS 2 9 4 .done)) .ret)))
theorem ic79_ok : Tryz.f79.body.bind (trC Tryz.prog []) = some ic79 := by kernel_rfl
def fr79 : List FR := [(FR.c 2 4 true)]
theorem fr79_ok : fres Tryz.prog Tryz.f79.results.toList = some fr79 := by kernel_rfl
def ic30 : IC := (xR (xt (.box 24 (xr 0)) 2 (xt (.box 50 (xr 1)) 3 (xt (.mv (xb false)) 4 .done))) (xR (xtA 2 5 5 (xt (.call 20 [xr 5]) 6 (xtM 6 7 (xG (.fad (xr 3) 0) 8 7 true (xG (.ld (xr 8) 1 false) 9 7 true (xG (.call 27 [xr 9, (xi 0), (xi 255)]) 10 7 true (xt (.pick (xr 7) (xr 10) (xb false)) 11 (xtM 11 12 (xG (.fad (xr 3) 2) 13 12 true (xG (.ld (xr 13) 1 false) 14 12 true (xG (.call 27 [xr 14, (xi 0), (xi 9999)]) 15 12 true (xt (.pick (xr 12) (xr 15) (xb false)) 16 (xtM 16 17 (xG (.fad (xr 3) 3) 18 17 true (xG (.ld (xr 18) 1 false) 19 17 true (xG (.call 27 [xr 19, (xi 0), (xi 9999)]) 20 17 true (xt (.pick (xr 17) (xr 20) (xb false)) 21 (xtM 21 22 (xG (.fad (xr 3) 0) 23 22 true (xG (.ld (xr 23) 1 false) 24 22 true (xG (.fad (xr 3) 2) 25 22 true (xG (.ld (xr 25) 1 false) 26 22 true (xG (.fad (xr 3) 3) 27 22 true (xG (.ld (xr 27) 1 false) 28 22 true (xG (.bin .sub (xr 26) (xr 28)) 29 22 true (xG (.bin .eql (xr 24) (xr 29)) 30 22 true (xt (.pick (xr 22) (xr 30) (xb false)) 31 (xtM 31 32 (xG (.fad (xr 3) 1) 33 32 true (xG (.ld (xr 33) 1 false) 34 32 true (xG (.len (xr 34)) 35 32 true (xG (.bin .leq (xr 35) (xi 24)) 36 32 true (xt (.pick (xr 32) (xr 36) (xb false)) 37 (xtM 37 38 (xG (.ld (xr 2) 5 true) 39 38 true (xG (.fad (xr 3) 1) 40 38 true (xG (.ld (xr 40) 1 false) 41 38 true (xG (.call 53 [xr 39, xr 41]) 42 38 true (xt (.pick (xr 38) (xr 42) (xb false)) 43 (xtM 43 4 .done)))))))))))))))))))))))))))))))))))))))) .ret))
theorem ic30_ok : Tryz.f30.body.bind (trC Tryz.prog []) = some ic30 := by kernel_rfl
def fr30 : List FR := [(FR.t 4)]
theorem fr30_ok : fres Tryz.prog Tryz.f30.results.toList = some fr30 := by kernel_rfl
def ic31 : IC := (xR (xt (.box 43 (xr 0)) 1 (xt (.mv (xb false)) 2 .done)) (xR (xtF 1 0 3 (xtO 3 4 (xt (.call 27 [xr 4, (xi 0), (xi 255)]) 5 (xtM 5 6 (xG (.fad (xr 1) 1) 7 6 true (xG (.ld (xr 7) 2 true) 8 6 true (xG (.call 54 [xr 8]) 9 6 true (xt (.pick (xr 6) (xr 9) (xb false)) 10 (xtM 10 2 .done))))))))) .ret))
theorem ic31_ok : Tryz.f31.body.bind (trC Tryz.prog []) = some ic31 := by kernel_rfl
def fr31 : List FR := [(FR.t 2)]
theorem fr31_ok : fres Tryz.prog Tryz.f31.results.toList = some fr31 := by kernel_rfl
def ic73 : IC := (xR (xt (.box 50 (xr 0)) 1 (xt (.alc 50 [zI, zS, zI, zI, zB]) 2 .done)) (xR (xtA 1 5 4 (xt (.alc 50 [zI, zS, zI, zI, zB]) 3 (xS 3 4 5 .done))) (xR (xtF 1 1 5 (xtO 5 6 (xt (.call 108 [xr 6]) 7 (xtF 3 1 8 (xS 8 7 1 .done))))) (xR (xtA 3 5 9 (xS 2 9 5 .done)) .ret))))
theorem ic73_ok : Tryz.f73.body.bind (trC Tryz.prog []) = some ic73 := by kernel_rfl
def fr73 : List FR := [(FR.c 2 5 true)]
theorem fr73_ok : fres Tryz.prog Tryz.f73.results.toList = some fr73 := by kernel_rfl
def ic74 : IC := (xR (xt (.box 43 (xr 0)) 1 (xt (.alc 43 [zI, zI, zS, zB]) 2 .done)) (xR (xtA 1 4 4 (xt (.alc 43 [zI, zI, zS, zB]) 3 (xS 3 4 4 .done))) (xR (xt (.bsl 5 1 0 [(.int .u8 0)] []) 5 (xtF 1 1 6 (xtF 6 1 7 (xtO 7 8 (xt (.app 22 (xr 5) (xr 8)) 9 (xtF 3 1 10 (xtF 10 1 11 (xS 11 9 1 .done)))))))) (xR (xtA 3 4 12 (xS 2 12 4 .done)) .ret))))
theorem ic74_ok : Tryz.f74.body.bind (trC Tryz.prog []) = some ic74 := by kernel_rfl
def fr74 : List FR := [(FR.c 2 4 true)]
theorem fr74_ok : fres Tryz.prog Tryz.f74.results.toList = some fr74 := by kernel_rfl
set_option maxHeartbeats 1000000
theorem callT.toRow {P : Program} {f : FuncId} {args : List Operand} {d : Option Nat} {s : St} {K : St → Prop} (k j : Nat) {e sz m : Nat} {cs : List SC} {vs : List Value} (hk : look j s.L = some (.cells e cs)) (hv : allV cs = some vs) (hl : vs.length = m * sz) (hm : m ≤ 1000000000) (h : ∀ b, callT P f args d (rowSt s k j b e sz m vs) K) : callT P f args d s K := fun o h1 h2 => opT.toRow k j hk hv hl hm fun b => h b o h1 h2
theorem crxok_i (r : CRx) (A : Option Addr) (k : Nat) (z : Zc) (h : r.join.got.length ≤ 1000000000) (hj : -1000000000 ≤ r.join.len) : PSpec Tryz.prog 31 [vCRx r (.slice A r.join.got.length k)] z fun u z' => u = .bool (crxOk r) ∧ z = z' := by
  (refine pspec_enter Tryz.func31 ic31_ok fr31_ok Tryz.ntmps31 ?_; simp only [seval, go_sem, ic31, fr31])
  (try simp only [seval, go_sem]); repeat' (first | (with_reducible refine vsI.id ?_; (try simp only [seval, go_sem])) | (with_reducible refine vcI_cond ?_; (try simp only [seval, go_sem])) | (with_reducible refine guardR.split (fun hg => ?_) (fun hg => ?_) <;> (try simp only [hg]) <;> simp only [seval, go_sem]) | (with_reducible refine condI.split (fun hg => ?_) (fun hg => ?_) <;> (try simp only [hg]) <;> (try simp only [seval, go_sem])) | (with_reducible refine callM.toT ?_) | (refine callP (in_i _ _ _ _) rfl rfl ?_; rintro _ _ - ⟨rfl, rfl⟩; (try simp only [seval, go_sem])) | (refine callP (joinok_i r.join A k _ h hj) rfl rfl ?_; rintro _ _ - ⟨rfl, rfl⟩; (try simp only [seval, go_sem])))
  all_goals ((first|refine fN ?_|exact fZ); (try simp only [inB_iff, inB_no, isNum_iff, beq_iff_eq, decide_eq_true_eq, decide_eq_false_iff_not, beq_eq_false_iff_ne, bne_iff_ne, bne_eq_false_iff_eq, Bool.not_eq_true', Bool.not_eq_false', and_true] at *); (try simp (disch := omega) only [wrap_in, Int.tmod_eq_emod_of_nonneg] at *); (try simp only [and_true]); first | rfl | (simp_all [crxOk]; done) | (refine congrArg Value.bool (Bool.eq_iff_iff.2 ?_); simp [*, crxOk, inB_iff]; done) | (refine congrArg Value.bool (Bool.eq_iff_iff.2 ?_); simp [*, crxOk, inB_iff]; omega) | (simp_all [crxOk]; omega))
theorem ctxok_i (c : Cfg) (t : CTx) (q : Value) (z : Zc) (h : Sl pRep z t.queue q) (hl : t.queue.length ≤ 1000000000) (hp : ∀ p ∈ t.queue, p.data.length ≤ 1000000000) : PSpec Tryz.prog 30 [vCfg c, vCTx t q] z fun u z' => u = .bool (ctxOk c t) := by
  obtain ⟨A, k, cs, rfl, hk, he, hr⟩ := h
  (refine pspec_enter Tryz.func30 ic30_ok fr30_ok Tryz.ntmps30 ?_; simp only [seval, go_sem, ic30, fr30])
  (try simp only [seval, go_sem]); repeat' (first | (with_reducible refine vsI.id ?_; (try simp only [seval, go_sem])) | (with_reducible refine vcI_cond ?_; (try simp only [seval, go_sem])) | (with_reducible refine guardR.split (fun hg => ?_) (fun hg => ?_) <;> (try simp only [hg]) <;> simp only [seval, go_sem]) | (with_reducible refine condI.split (fun hg => ?_) (fun hg => ?_) <;> (try simp only [hg]) <;> (try simp only [seval, go_sem])) | (with_reducible refine callM.toT ?_) | (refine callP (in_i _ _ _ _) rfl rfl ?_; rintro _ _ - ⟨rfl, rfl⟩; (try simp only [seval, go_sem])) | (refine callP (cfgok_i _ _) rfl rfl ?_; rintro _ _ - ⟨rfl, rfl⟩; (try simp only [seval, go_sem])))
  all_goals (try (refine tT ?_; refine callP (partsok_i c t.queue _ z ⟨A, k, cs, rfl, hk, he, hr⟩ hl hp) rfl rfl ?_; rintro u z1 hz1 rfl)); refine gO ?_
  all_goals ((first|refine fN ?_|exact fZ); (try simp only [inB_iff, inB_no, isNum_iff, beq_iff_eq, decide_eq_true_eq, decide_eq_false_iff_not, beq_eq_false_iff_ne, bne_iff_ne, bne_eq_false_iff_eq, Bool.not_eq_true', Bool.not_eq_false', and_true] at *); (try simp (disch := omega) only [wrap_in, Int.tmod_eq_emod_of_nonneg] at *); (try simp only [and_true]); first | rfl | (simp_all [ctxOk]; done) | (refine congrArg Value.bool (Bool.eq_iff_iff.2 ?_); simp [*, ctxOk, inB_iff]; done) | (refine congrArg Value.bool (Bool.eq_iff_iff.2 ?_); simp [*, ctxOk, inB_iff]; omega) | (simp_all [ctxOk]; omega))
theorem ctxcopy_i (t : CTx) (q : Value) (z : Zc) (h : Sl pRep z t.queue q) (hl : t.queue.length ≤ 1000000) (hp : ∀ p ∈ t.queue, p.data.length ≤ 1000000000) : PSpec Tryz.prog 78 [vCTx t q] z fun u z' => ∃ A, u = vCTx t (.slice A t.queue.length t.queue.length) ∧ Sl pRep z' t.queue (.slice A t.queue.length t.queue.length) := by
  obtain ⟨A, k, cs, rfl, hk, he, hr⟩ := h
  (refine pspec_enter Tryz.func78 ic78_ok fr78_ok Tryz.ntmps78 ?_; simp only [seval, go_sem, ic78, fr78])
  refine gO ?_
  refine tT ?_; refine callP (copyparts_i t.queue _ z ⟨A, k, cs, rfl, hk, he, hr⟩ hl hp) rfl rfl ?_; rintro u z1 hz1 ⟨A2, rfl, hs⟩; refine gO ?_
  (first|refine fN ?_|exact fZ)
  exact ⟨_, rfl, hs⟩
theorem crxcopy_i (r : CRx) (q : Value) (z : Zc) (h : By z r.join.got q) (hl : r.join.got.length ≤ 1000000000) : PSpec Tryz.prog 79 [vCRx r q] z fun u z' => ∃ A, u = vCRx r (.slice A r.join.got.length r.join.got.length) ∧ By z' r.join.got (.slice A r.join.got.length r.join.got.length) := by
  obtain ⟨A, k, rfl, hk, hB, hr⟩ := h.form
  (refine pspec_enter Tryz.func79 ic79_ok fr79_ok Tryz.ntmps79 ?_; simp only [seval, go_sem, ic79, fr79])
  refine gO ?_
  refine tT ?_; refine callP (cloneBy r.join.got _ z h hl) rfl rfl ?_; rintro u z1 hz1 ⟨A2, rfl, _, hs⟩; refine gO ?_
  (first|refine fN ?_|exact fZ)
  exact ⟨_, rfl, By.mk (Nat.le_refl _) hB hs⟩
theorem l8tx (t : CTx) (q : Value) (z : Zc) (h : Sl pRep z t.queue q) (hl : t.queue.length ≤ 1000000) (hp : ∀ p ∈ t.queue, p.data.length ≤ 1000000000) : Spec Tryz.prog 73 [vCTx t q] z emp fun u z' A' => ∃ A c cs, u = vCTx t (.slice A t.queue.length c) ∧ A' = rowA 123 3 (.slice A t.queue.length c) t.queue.length cs ∧ t.queue.length ≤ c ∧ Els pRep z' t.queue cs := by
  obtain ⟨A, k, cs, rfl, hk, he, hr⟩ := h
  (refine spec_enter0 Tryz.func73 ic73_ok fr73_ok Tryz.ntmps73 ?_; simp only [seval, go_sem, ic73, fr73])
  refine gO ?_
  refine tT ?_; refine callO 90 (l6list_s t.queue _ z ⟨A, k, cs, rfl, hk, he, hr⟩ hl hp) rfl rfl rfl ?_; rintro v z1 A' hz1 ⟨A2, c2, ds, rfl, rfl, hc2, hs⟩; refine gO ?_
  (((try simp only [seval, go_sem]);repeat((with_reducible first|refine vJ ?_|refine vK ?_);try simp only [seval, go_sem])); refine FinV.own 90 rfl ?_; simp only [finE, finS, gt, look, SV.toV, SC.toV, allV, tupV, zq1, zq2, zq3, zq4, Nat.reduceAdd, Nat.reduceEqDiff, reduceCtorEq, if_true, if_false, reduceIte, Nat.succ_ne_self, true_and, zq5, zq7, zq8])
  exact ⟨_, _, _, rfl, rfl, hc2, hs⟩
theorem l8rx (r : CRx) (q : Value) (z : Zc) (h : By z r.join.got q) (hl : r.join.got.length ≤ 1000000000) : PSpec Tryz.prog 74 [vCRx r q] z fun u z' => ∃ A c, u = vCRx r (.slice A r.join.got.length c) ∧ By z' r.join.got (.slice A r.join.got.length c) := by
  obtain ⟨A, k, rfl, hk, hB, hr⟩ := h.form
  (refine pspec_enter Tryz.func74 ic74_ok fr74_ok Tryz.ntmps74 ?_; simp only [seval, go_sem, ic74, fr74])
  refine gO ?_
  refine aT ?_; (refine appM_empty 99 atyB rfl (by first | exact .inl ⟨_, rfl⟩ | exact .inr ⟨_, _, rfl⟩) rfl hr (by first | omega | (simp <;> omega)) (bc_one _) (by omega) (fun A2 c2 z2 hz2 hc2 hr2 => ?_)); dsimp only at hz2; refine gO ?_
  (first|refine fN ?_|exact fZ)
  exact ⟨_, _, rfl, By.mk hc2 hB hr2⟩
theorem puti (j : Join) (p : Part) (v u : Value) (z : Zc) (hv : By z j.got v) (hu : By z p.data u) (hl : j.got.length ≤ 100000) (hp : p.data.length ≤ 100000) (hj : 0 ≤ j.len) (hs : 0 ≤ p.seg ∧ p.seg ≤ 3) : PSpec Tryz.prog 156 [vJoin j v, vPart p u] z fun r z' => ∃ A k A2 k2, r = .tuple #[vJoin (segPut j p).1 (.slice A (segPut j p).1.got.length k), .slice A2 (segPut j p).2.1.length k2, .int .i64 (segPut j p).2.2] ∧ By z' (segPut j p).1.got (.slice A (segPut j p).1.got.length k) ∧ By z' (segPut j p).2.1 (.slice A2 (segPut j p).2.1.length k2) := by
  have h := put_i j p v u z hv hu hl hp
  refine PSpec.mono (by first | exact h | exact h hj hs) ?_
  rintro r z' hz ⟨v', w', rfl, h1, h2⟩
  obtain ⟨A, k, rfl, _⟩ := h1.form
  obtain ⟨A2, k2, rfl, _⟩ := h2.form
  exact ⟨A, k, A2, k2, rfl, h1, h2⟩
theorem puts (j : Join) (p : Part) (v u : Value) (z : Zc) (hv : By z j.got v) (hu : By z p.data u) (hl : j.got.length ≤ 100000) (hp : p.data.length ≤ 100000) (hj : 0 ≤ j.len) (hs : 0 ≤ p.seg ∧ p.seg ≤ 3) : PSpec Tryz.prog 153 [vJoin j v, vPart p u] z fun r z' => ∃ A k A2 k2, r = .tuple #[vJoin (segPut j p).1 (.slice A (segPut j p).1.got.length k), .slice A2 (segPut j p).2.1.length k2, .int .i64 (segPut j p).2.2] ∧ By z' (segPut j p).1.got (.slice A (segPut j p).1.got.length k) ∧ By z' (segPut j p).2.1 (.slice A2 (segPut j p).2.1.length k2) := by
  have h := put_s j p v u z hv hu hl hp
  refine PSpec.mono (by first | exact h | exact h hj hs) ?_
  rintro r z' hz ⟨v', w', rfl, h1, h2⟩
  obtain ⟨A, k, rfl, _⟩ := h1.form
  obtain ⟨A2, k2, rfl, _⟩ := h2.form
  exact ⟨A, k, A2, k2, rfl, h1, h2⟩
theorem CTxI.small {c : Cfg} {t : CTx} (h : CTxI c t) : ∀ p ∈ t.queue, p.data.length ≤ 8 := fun p hp => by have := (h.qu p hp).2; have := h.cfg.mps; omega



set_option maxHeartbeats 4000000
def ic71 : IC := (xR (xt (.box 46 (xr 0)) 1 (xt (.alc 46 [zI, zI, zS, zI, zS, zB, zI, zB, zI, zB]) 2 .done)) (xR (xtA 1 10 4 (xt (.alc 46 [zI, zI, zS, zI, zS, zB, zI, zB, zI, zB]) 3 (xS 3 4 10 .done))) (xR (xtF 1 2 5 (xtO 5 6 (xt (.call 108 [xr 6]) 7 (xtF 3 2 8 (xS 8 7 1 .done))))) (xR (xtF 1 4 9 (xtO 9 10 (xt (.call 108 [xr 10]) 11 (xtF 3 4 12 (xS 12 11 1 .done))))) (xR (xtA 3 10 13 (xS 2 13 10 .done)) .ret)))))
theorem ic71_ok : Tryz.f71.body.bind (trC Tryz.prog []) = some ic71 := by kernel_rfl
def fr71 : List FR := [(FR.c 2 10 true)]
theorem fr71_ok : fres Tryz.prog Tryz.f71.results.toList = some fr71 := by kernel_rfl
def ic95 : IC := (xR (xt (.box 24 (xr 0)) 3 (xt (.box 46 (xr 1)) 4 (xt (.alc 46 [zI, zI, zS, zI, zS, zB, zI, zB, zI, zB]) 6 (xt (.mv (xb false)) 7 .done)))) (xR (xtM 2 9 (xtF 3 2 10 (xtO 10 11 (xt (.call 129 [xr 9, xr 11]) 12 (xtM 12 8 .done))))) (.seq (xR (xtF 4 9 13 (xtO 13 14 (xtM 14 15 (xG (.mv (xr 2)) 16 15 false (xG (.len (xr 16)) 17 15 false (xG (.fad (xr 3) 3) 18 15 false (xG (.ld (xr 18) 1 false) 19 15 false (xG (.bin .gtr (xr 17) (xr 19)) 20 15 false (xt (.pick (xr 15) (xb true) (xr 20)) 21 (xtM 21 22 (xG (.fad (xr 4) 4) 23 22 false (xG (.ld (xr 23) 1 false) 24 22 false (xG (.len (xr 24)) 25 22 false (xG (.mv (xr 8)) 26 22 false (xG (.len (xr 26)) 27 22 false (xG (.bin .add (xr 25) (xr 27)) 28 22 false (xG (.bin .gtr (xr 28) (xi 24)) 29 22 false (xt (.pick (xr 22) (xb true) (xr 29)) 30 .done)))))))))))))))))) (.cond (xr 30) (xR (xtA 4 10 31 (xS 6 31 10 (xt (.mv (xb false)) 7 .done))) .ret) .skip)) (xR (xtF 4 4 32 (xtO 32 33 (xtM 8 34 (xt (.app 44 (xr 33) (xr 34)) 35 (xtF 4 4 36 (xS 36 35 1 .done)))))) (xR (xtA 4 10 37 (xS 6 37 10 (xt (.mv (xb true)) 7 .done))) .ret)))))
theorem ic95_ok : Tryz.f95.body.bind (trC Tryz.prog []) = some ic95 := by kernel_rfl
def fr95 : List FR := [(FR.c 6 10 true), (FR.t 7)]
theorem fr95_ok : fres Tryz.prog Tryz.f95.results.toList = some fr95 := by kernel_rfl
def ic132 : IC := (xR (xt (.box 123 (xr 0)) 3 (xt (.alc 34 [zI, zI, zI, zB, zB, zI, zI, zI, zS]) 6 .done)) (.seq (.reg [6] (xpM 1 7 (xpM 2 8 (xpF 3 0 9 (xlO 9 10 (xpF 3 1 11 (xlO 11 12 (xpF 3 2 14 (xlO 14 15 (xm (.bsl 5 1 0 [(.int .u8 0)] []) 13 (xm (.app 22 (xr 13) (xr 15)) 16 (xp (.bld [zI, zI, zI, zB, zB, zI, zI, zI, zS] [(0, (1, (xi 1))), (1, (1, (xr 7))), (2, (1, (xr 8))), (6, (1, (xr 10))), (7, (1, (xr 12))), (8, (1, (xr 16)))]) 17 (.op .m (.sto (xr 6) (xr 17) 9) none none .done))))))))))))) .ret))
theorem ic132_ok : Tryz.f132.body.bind (trC Tryz.prog []) = some ic132 := by kernel_rfl
def fr132 : List FR := [(FR.c 6 9 true)]
theorem fr132_ok : fres Tryz.prog Tryz.f132.results.toList = some fr132 := by kernel_rfl
def ic97 : IC := (xR (xt (.box 24 (xr 0)) 3 (xt (.box 46 (xr 1)) 4 (xt (.alc 46 [zI, zI, zS, zI, zS, zB, zI, zB, zI, zB]) 6 (xt (.alc 34 [zI, zI, zI, zB, zB, zI, zI, zI, zS]) 7 (xt (.mv (xb false)) 8 .done))))) (.seq (xR (xtF 4 9 10 (xtO 10 11 (xtM 11 12 (xG (.fad (xr 4) 5) 13 12 false (xG (.ld (xr 13) 1 false) 14 12 false (xt (.pick (xr 12) (xb true) (xr 14)) 15 (xtM 15 16 (xG (.fad (xr 4) 7) 17 16 false (xG (.ld (xr 17) 1 false) 18 16 false (xt (.pick (xr 16) (xb true) (xr 18)) 19 .done)))))))))) (.cond (xr 19) (xR (xtA 4 10 20 (xt (.bld [zI, zI, zI, zB, zB, zI, zI, zI, zS] []) 21 (xS 6 20 10 (xS 7 21 9 (xt (.mv (xb false)) 8 .done))))) .ret) .skip)) (.seq (xR (xtF 4 3 22 (xtO 22 23 (xtF 4 2 24 (xtO 24 25 (xtL 25 26 (xt (.bin .eql (xr 23) (xr 26)) 27 .done)))))) (.cond (xr 27) (.seq (xR (xtF 4 2 28 (xtO 28 29 (xtL 29 30 (xtF 3 1 31 (xtO 31 32 (xt (.bin .eql (xr 30) (xr 32)) 33 (xtM 33 34 (xG (.fad (xr 4) 4) 35 34 false (xG (.ld (xr 35) 1 false) 36 34 false (xG (.len (xr 36)) 37 34 false (xG (.bin .eql (xr 37) (xi 0)) 38 34 false (xt (.pick (xr 34) (xb true) (xr 38)) 39 (xtM 39 40 (xG (.fad (xr 4) 8) 41 40 false (xG (.ld (xr 41) 1 false) 42 40 false (xG (.fad (xr 4) 2) 43 40 false (xG (.ld (xr 43) 1 false) 44 40 false (xG (.len (xr 44)) 45 40 false (xG (.bin .add (xr 42) (xr 45)) 46 40 false (xG (.bin .geq (xr 46) (xi 9999)) 47 40 false (xt (.pick (xr 40) (xb true) (xr 47)) 48 .done))))))))))))))))))))) (.cond (xr 48) (xR (xtA 4 10 49 (xt (.bld [zI, zI, zI, zB, zB, zI, zI, zI, zS] []) 50 (xS 6 49 10 (xS 7 50 9 (xt (.mv (xb false)) 8 .done))))) .ret) .skip)) (xR (xpF 4 2 51 (xlO 51 52 (xpF 4 4 53 (xlO 53 54 (xp (.iad (xr 54) (xi 0) 3) 55 (xlA 55 3 56 (xm (.bsl 123 3 1 [zI, zI, zS] [(0, (xr 56))]) 57 (xm (.app 44 (xr 52) (xr 57)) 58 (xpF 4 2 59 (xS 59 58 1 .done)))))))))) (xR (xtF 4 4 60 (xtO 60 61 (xt (.slc (xr 61) (some (xi 1)) none 3) 62 (xt (.call 108 [xr 62]) 63 (xtF 4 4 64 (xS 64 63 1 .done)))))) (xQ (xtF 4 0 65 (xtO 65 66 (xt (.call 131 [xr 66]) 67 (xtF 4 0 68 (xS 68 67 1 .done))))))))) .skip)) (.seq (.join [] (xpF 4 2 69 (xlO 69 70 (xpF 4 3 71 (xlO 71 72 (xpI 70 72 3 73 (xpF 4 1 75 (xlO 75 76 (xpF 4 3 77 (xlO 77 78 (xp (.bin .add (xr 76) (xr 78)) 79 (xp (.bin .rem (xr 79) (xi 8)) 80 (xpM 2 81 (.alt (xmA 73 3 74 (.alt (xm (.call 132 [xr 74, xr 80, xr 81]) 82 (xm (.alc 34 [zI, zI, zI, zB, zB, zI, zI, zI, zS]) 9 (xS 9 82 9 .done))) (xm (.alc 34 [zI, zI, zI, zB, zB, zI, zI, zI, zS]) 9 (xm (.call 132 [xr 74, xr 80, xr 81]) 82 (xS 9 82 9 .done))))) (xm (.alc 34 [zI, zI, zI, zB, zB, zI, zI, zI, zS]) 9 (xmA 73 3 74 (xm (.call 132 [xr 74, xr 80, xr 81]) 82 (xS 9 82 9 .done)))))))))))))))))) (xR (xtF 4 3 83 (xtO 83 84 (xt (.bin .add (xr 84) (xi 1)) 85 (xtF 4 3 86 (xS 86 85 1 .done))))) (.seq (.reg [6, 7] (xlA 4 10 87 (xlA 9 9 88 (.op .m (.sto (xr 6) (xr 87) 10) none none (.op .m (.sto (xr 7) (xr 88) 9) none none (xp (.mv (xb true)) 8 .done)))))) .ret))))))
theorem ic97_ok : Tryz.f97.body.bind (trC Tryz.prog [1000073]) = some ic97 := by kernel_rfl
def fr97 : List FR := [(FR.c 6 10 true), (FR.c 7 9 true), (FR.t 8)]
theorem fr97_ok : fres Tryz.prog Tryz.f97.results.toList = some fr97 := by kernel_rfl
def ic159 : IC := (xR (xt (.box 46 (xr 0)) 2 (xt (.alc 46 [zI, zI, zS, zI, zS, zB, zI, zB, zI, zB]) 4 .done)) (xR (xtF 2 1 6 (xtO 6 7 (xtM 1 8 (xt (.call 162 [xr 7, xr 8]) 9 (xtM 9 5 .done))))) (.seq (xR (xtM 5 10 (xtF 2 2 11 (xtO 11 12 (xtL 12 13 (xt (.bin .gtr (xr 10) (xr 13)) 14 .done))))) (.cond (xr 14) (xR (xtF 2 9 15 (.op .t (.sto (xr 15) (xb true) 1) none none .done)) (xR (xtA 2 10 16 (xS 4 16 10 .done)) .ret)) .skip)) (xR (xtF 2 2 17 (xtO 17 18 (xtM 5 19 (xt (.slc (xr 18) (some (xr 19)) none 3) 20 (xt (.call 108 [xr 20]) 21 (xtF 2 2 22 (xS 22 21 1 .done))))))) (xR (xtF 2 3 23 (xtO 23 24 (xtM 5 25 (xt (.bin .sub (xr 24) (xr 25)) 26 (xt (.mx (xi 0) (xr 26)) 27 (xtF 2 3 28 (xS 28 27 1 .done))))))) (xR (xtM 1 29 (xtF 2 1 30 (xS 30 29 1 .done))) (xR (xtF 2 8 31 (xtO 31 32 (xtM 5 33 (xt (.bin .add (xr 32) (xr 33)) 34 (xtF 2 8 35 (xS 35 34 1 .done)))))) (xR (xtA 2 10 36 (xS 4 36 10 .done)) .ret))))))))
theorem ic159_ok : Tryz.f159.body.bind (trC Tryz.prog []) = some ic159 := by kernel_rfl
def fr159 : List FR := [(FR.c 4 10 true)]
theorem fr159_ok : fres Tryz.prog Tryz.f159.results.toList = some fr159 := by kernel_rfl
def ic151 : IC := (xR (xt (.box 46 (xr 0)) 2 (xt (.box 34 (xr 1)) 3 (xt (.alc 46 [zI, zI, zS, zI, zS, zB, zI, zB, zI, zB]) 4 .done))) (.seq (xR (xtF 2 9 5 (xtO 5 6 .done)) (.cond (xr 6) (xR (xtA 2 10 7 (xS 4 7 10 .done)) .ret) .skip)) (xR (xtA 2 10 8 (xtF 3 2 9 (xtO 9 10 (xt (.call 159 [xr 8, xr 10]) 11 (xS 2 11 10 .done))))) (.seq (xR (xtF 2 9 12 (xtO 12 13 (xtM 13 14 (xG (.fad (xr 3) 0) 15 14 false (xG (.ld (xr 15) 1 false) 16 14 false (xG (.bin .neq (xr 16) (xi 2)) 17 14 false (xG (.mv (xr 17)) 18 14 false (xG (.fad (xr 3) 4) 19 18 true (xG (.ld (xr 19) 1 false) 20 18 true (xG (.not (xr 20)) 21 18 true (xG (.pick (xr 18) (xr 21) (xb false)) 22 14 false (xt (.pick (xr 14) (xb true) (xr 22)) 23 .done)))))))))))) (.cond (xr 23) (xR (xtA 2 10 24 (xS 4 24 10 .done)) .ret) .skip)) (.seq (xR (xtF 3 0 25 (xtO 25 26 (xt (.bin .eql (xr 26) (xi 2)) 27 .done))) (.cond (xr 27) (xQ (xtF 3 5 28 (xtO 28 29 (xt (.bin .eql (xr 29) (xi 2)) 30 (xtF 2 7 31 (xS 31 30 1 .done)))))) .skip)) (.seq (xR (xtF 3 4 32 (xtO 32 33 (xtM 33 34 (xG (.fad (xr 2) 5) 35 34 true (xG (.ld (xr 35) 1 false) 36 34 true (xt (.pick (xr 34) (xr 36) (xb false)) 37 .done)))))) (.cond (xr 37) (xR (xtF 2 5 38 (.op .t (.sto (xr 38) (xb false) 1) none none .done)) (xR (xtF 2 6 39 (.op .t (.sto (xr 39) (xi 0) 1) none none .done)) (xQ (xtF 2 3 40 (.op .t (.sto (xr 40) (xi 0) 1) none none .done))))) .skip)) (.seq (xR (xtF 3 0 41 (xtO 41 42 (xt (.bin .eql (xr 42) (xi 2)) 43 (xtM 43 44 (xG (.fad (xr 3) 5) 45 44 true (xG (.ld (xr 45) 1 false) 46 44 true (xG (.bin .eql (xr 46) (xi 1)) 47 44 true (xt (.pick (xr 44) (xr 47) (xb false)) 48 (xtM 48 49 (xG (.fad (xr 2) 5) 50 49 true (xG (.ld (xr 50) 1 false) 51 49 true (xG (.not (xr 51)) 52 49 true (xt (.pick (xr 49) (xr 52) (xb false)) 53 .done))))))))))))) (.cond (xr 53) (xQ (xtF 2 3 54 (.op .t (.sto (xr 54) (xi 0) 1) none none .done))) .skip)) (xR (xtA 2 10 55 (xS 4 55 10 .done)) .ret))))))))
theorem ic151_ok : Tryz.f151.body.bind (trC Tryz.prog []) = some ic151 := by kernel_rfl
def fr151 : List FR := [(FR.c 4 10 true)]
theorem fr151_ok : fres Tryz.prog Tryz.f151.results.toList = some fr151 := by kernel_rfl
def ic100 : IC := (xR (xt (.box 24 (xr 0)) 4 (xt (.box 46 (xr 1)) 5 (xt (.alc 46 [zI, zI, zS, zI, zS, zB, zI, zB, zI, zB]) 8 (xt (.alc 34 [zI, zI, zI, zB, zB, zI, zI, zI, zS]) 9 (xt (.mv (xb false)) 10 .done))))) (.seq (xR (xtF 5 9 11 (xtO 11 12 (xtM 12 13 (xG (.fad (xr 5) 2) 14 13 false (xG (.ld (xr 14) 1 false) 15 13 false (xG (.len (xr 15)) 16 13 false (xG (.bin .eql (xr 16) (xi 0)) 17 13 false (xG (.mv (xr 17)) 18 13 false (xG (.fad (xr 5) 7) 19 18 true (xG (.ld (xr 19) 1 false) 20 18 true (xG (.not (xr 20)) 21 18 true (xG (.pick (xr 18) (xr 21) (xb false)) 22 13 false (xG (.mv (xr 22)) 23 13 false (xG (.fad (xr 5) 5) 24 23 true (xG (.ld (xr 24) 1 false) 25 23 true (xG (.not (xr 25)) 26 23 true (xG (.pick (xr 23) (xr 26) (xb false)) 27 13 false (xt (.pick (xr 13) (xb true) (xr 27)) 28 .done)))))))))))))))))) (.cond (xr 28) (xR (xtA 5 10 29 (xt (.bld [zI, zI, zI, zB, zB, zI, zI, zI, zS] []) 30 (xS 8 29 10 (xS 9 30 9 (xt (.mv (xb false)) 10 .done))))) .ret) .skip)) (.seq (xR (xtF 5 6 31 (xtO 31 32 (xtF 4 4 33 (xtO 33 34 (xt (.bin .eql (xr 32) (xr 34)) 35 .done))))) (.cond (xr 35) (xR (xtF 5 9 36 (.op .t (.sto (xr 36) (xb true) 1) none none .done)) (xR (xtA 5 10 37 (xt (.bld [zI, zI, zI, zB, zB, zI, zI, zI, zS] []) 38 (xS 8 37 10 (xS 9 38 9 (xt (.mv (xb false)) 10 .done))))) .ret)) .skip)) (xR (xtF 5 6 39 (xtO 39 40 (xt (.bin .add (xr 40) (xi 1)) 41 (xtF 5 6 42 (xS 42 41 1 .done))))) (xR (xtF 5 5 43 (.op .t (.sto (xr 43) (xb true) 1) none none .done)) (.seq (.reg [8, 9] (xlA 5 10 44 (xpM 2 45 (xpM 3 46 (xm (.call 92 [xr 46]) 47 (xp (.bin .mul (xi 2) (xr 47)) 48 (xp (.bld [zI, zI, zI, zB, zB, zI, zI, zI, zS] [(0, (1, (xi 2))), (2, (1, (xr 45))), (3, (1, (xb true))), (5, (1, (xr 48)))]) 49 (.op .m (.sto (xr 8) (xr 44) 10) none none (.op .m (.sto (xr 9) (xr 49) 9) none none (xp (.mv (xb true)) 10 .done)))))))))) .ret))))))
theorem ic100_ok : Tryz.f100.body.bind (trC Tryz.prog []) = some ic100 := by kernel_rfl
def fr100 : List FR := [(FR.c 8 10 true), (FR.c 9 9 true), (FR.t 10)]
theorem fr100_ok : fres Tryz.prog Tryz.f100.results.toList = some fr100 := by kernel_rfl
def ic72 : IC := (xR (xt (.box 48 (xr 0)) 1 (xt (.alc 48 [zI, zI, zI, zS, zB, zB, zB]) 2 .done)) (xR (xtA 1 7 4 (xt (.alc 48 [zI, zI, zI, zS, zB, zB, zB]) 3 (xS 3 4 7 .done))) (xR (xt (.bsl 5 1 0 [(.int .u8 0)] []) 5 (xtF 1 2 6 (xtF 6 1 7 (xtO 7 8 (xt (.app 22 (xr 5) (xr 8)) 9 (xtF 3 2 10 (xtF 10 1 11 (xS 11 9 1 .done)))))))) (xR (xtA 3 7 12 (xS 2 12 7 .done)) .ret))))
theorem ic72_ok : Tryz.f72.body.bind (trC Tryz.prog []) = some ic72 := by kernel_rfl
def fr72 : List FR := [(FR.c 2 7 true)]
theorem fr72_ok : fres Tryz.prog Tryz.f72.results.toList = some fr72 := by kernel_rfl
def ic103 : IC := (xR (xt (.box 48 (xr 0)) 2 (xt (.alc 34 [zI, zI, zI, zB, zB, zI, zI, zI, zS]) 4 .done)) (xR (xtF 2 0 6 (xtO 6 7 (xtM 1 8 (xt (.bld [zI, zI, zI, zB, zB, zI, zI, zI, zS] [(0, (1, (xi 2))), (2, (1, (xr 7))), (4, (1, (xr 8)))]) 9 (xt (.alc 34 [zI, zI, zI, zB, zB, zI, zI, zI, zS]) 5 (xS 5 9 9 .done)))))) (.seq (xR (xtF 2 5 10 (xtO 10 11 .done)) (.cond (xr 11) (xQ (xtF 5 5 12 (.op .t (.sto (xr 12) (xi 2) 1) none none .done))) .skip)) (xR (xtA 5 9 13 (xS 4 13 9 .done)) .ret))))
theorem ic103_ok : Tryz.f103.body.bind (trC Tryz.prog []) = some ic103 := by kernel_rfl
def fr103 : List FR := [(FR.c 4 9 true)]
theorem fr103_ok : fres Tryz.prog Tryz.f103.results.toList = some fr103 := by kernel_rfl
def ic163 : IC := (xR (xt (.box 24 (xr 0)) 3 (xt (.box 48 (xr 1)) 4 (xt (.box 34 (xr 2)) 5 (xt (.alc 48 [zI, zI, zI, zS, zB, zB, zB]) 6 (xt (.mv (.const zS)) 7 .done))))) (xR (xtF 5 6 12 (xtO 12 13 (xtF 5 7 14 (xtO 14 15 (xtF 5 8 16 (xtO 16 17 (xt (.bld [zI, zI, zS] [(0, (1, (xr 13))), (1, (1, (xr 15))), (2, (1, (xr 17)))]) 18 (xt (.alc 123 [zI, zI, zS]) 8 (xS 8 18 3 .done))))))))) (.seq (xR (xtF 5 7 19 (xtO 19 20 (xtF 3 3 21 (xtO 21 22 (xt (.bin .gtr (xr 20) (xr 22)) 23 (xtM 23 24 (xG (.fad (xr 5) 8) 25 24 false (xG (.ld (xr 25) 1 false) 26 24 false (xG (.len (xr 26)) 27 24 false (xG (.fad (xr 3) 2) 28 24 false (xG (.ld (xr 28) 1 false) 29 24 false (xG (.bin .gtr (xr 27) (xr 29)) 30 24 false (xt (.pick (xr 24) (xb true) (xr 30)) 31 (xtM 31 32 (xG (.fad (xr 4) 1) 33 32 false (xG (.ld (xr 33) 1 false) 34 32 false (xG (.bin .eql (xr 34) (xi 9999)) 35 32 false (xt (.pick (xr 32) (xb true) (xr 35)) 36 .done)))))))))))))))))) (.cond (xr 36) (xR (xtF 4 6 37 (.op .t (.sto (xr 37) (xb true) 1) none none .done)) (xR (xtA 4 7 38 (xt (.bsl 22 1 0 [zS] []) 39 (xS 6 38 7 (xtM 39 7 .done)))) .ret)) .skip)) (xR (xtF 4 2 41 (xtA 41 2 42 (xtA 8 3 43 (xt (.call 153 [xr 42, xr 43]) 44 (xtM 44 40 (xtE 40 0 45 (xtE 40 1 46 (xtE 40 2 47 (xt (.alc 41 [zI, zS]) 9 (xS 9 45 2 (xtM 46 10 (xtM 47 11 .done)))))))))))) (xR (xtA 9 2 48 (xtF 4 2 49 (xS 49 48 2 .done))) (.seq (xR (xtM 11 50 (xt (.bin .eql (xr 50) (xi 3)) 51 .done)) (.cond (xr 51) (xR (xtF 4 6 52 (.op .t (.sto (xr 52) (xb true) 1) none none .done)) (xR (xtA 4 7 53 (xt (.bsl 22 1 0 [zS] []) 54 (xS 6 53 7 (xtM 54 7 .done)))) .ret)) .skip)) (xR (xtF 4 0 55 (xtO 55 56 (xt (.call 131 [xr 56]) 57 (xtF 4 0 58 (xS 58 57 1 .done))))) (xR (xtF 4 1 59 (xtO 59 60 (xt (.bin .add (xr 60) (xi 1)) 61 (xtF 4 1 62 (xS 62 61 1 .done))))) (xR (xtF 4 4 63 (.op .t (.sto (xr 63) (xb false) 1) none none .done)) (.seq (xR (xtM 11 64 (xt (.bin .eql (xr 64) (xi 2)) 65 .done)) (.cond (xr 65) (xR (xtA 4 7 66 (xtM 10 67 (xt (.bsl 22 1 1 [zS] [(0, (xr 67))]) 68 (xS 6 66 7 (xtM 68 7 .done))))) .ret) .skip)) (xR (xtA 4 7 69 (xt (.bsl 22 1 0 [zS] []) 70 (xS 6 69 7 (xtM 70 7 .done)))) .ret)))))))))))
theorem ic163_ok : Tryz.f163.body.bind (trC Tryz.prog []) = some ic163 := by kernel_rfl
def fr163 : List FR := [(FR.c 6 7 true), (FR.t 7)]
theorem fr163_ok : fres Tryz.prog Tryz.f163.results.toList = some fr163 := by kernel_rfl
def ic160 : IC := (xR (xt (.box 24 (xr 0)) 3 (xt (.box 48 (xr 1)) 4 (xt (.box 34 (xr 2)) 5 (xt (.alc 48 [zI, zI, zI, zS, zB, zB, zB]) 6 (xt (.mv (.const zS)) 7 (xt (.mv (.const zS)) 8 .done)))))) (.seq (xR (xtF 4 5 12 (xtO 12 13 .done)) (.cond (xr 13) (.seq (.join [6] (xlA 4 7 14 (xlA 4 7 16 (.alt (xm (.bsl 22 1 0 [zS] []) 15 (xm (.call 103 [xr 16, (xb false)]) 17 (.alt (xm (.bsl 34 9 1 [zI, zI, zI, zB, zB, zI, zI, zI, zS] [(0, (xr 17))]) 18 (.op .m (.sto (xr 6) (xr 14) 7) none none (xpM 15 7 (xpM 18 8 .done)))) (.op .m (.sto (xr 6) (xr 14) 7) none none (xpM 15 7 (xm (.bsl 34 9 1 [zI, zI, zI, zB, zB, zI, zI, zI, zS] [(0, (xr 17))]) 18 (xpM 18 8 .done))))))) (xm (.call 103 [xr 16, (xb false)]) 17 (.alt (xm (.bsl 22 1 0 [zS] []) 15 (.alt (xm (.bsl 34 9 1 [zI, zI, zI, zB, zB, zI, zI, zI, zS] [(0, (xr 17))]) 18 (.op .m (.sto (xr 6) (xr 14) 7) none none (xpM 15 7 (xpM 18 8 .done)))) (.op .m (.sto (xr 6) (xr 14) 7) none none (xpM 15 7 (xm (.bsl 34 9 1 [zI, zI, zI, zB, zB, zI, zI, zI, zS] [(0, (xr 17))]) 18 (xpM 18 8 .done)))))) (.alt (xm (.bsl 34 9 1 [zI, zI, zI, zB, zB, zI, zI, zI, zS] [(0, (xr 17))]) 18 (.alt (xm (.bsl 22 1 0 [zS] []) 15 (.op .m (.sto (xr 6) (xr 14) 7) none none (xpM 15 7 (xpM 18 8 .done)))) (.op .m (.sto (xr 6) (xr 14) 7) none none (xm (.bsl 22 1 0 [zS] []) 15 (xpM 15 7 (xpM 18 8 .done)))))) (.op .m (.sto (xr 6) (xr 14) 7) none none (.alt (xm (.bsl 22 1 0 [zS] []) 15 (xpM 15 7 (xm (.bsl 34 9 1 [zI, zI, zI, zB, zB, zI, zI, zI, zS] [(0, (xr 17))]) 18 (xpM 18 8 .done)))) (xm (.bsl 34 9 1 [zI, zI, zI, zB, zB, zI, zI, zI, zS] [(0, (xr 17))]) 18 (xm (.bsl 22 1 0 [zS] []) 15 (xpM 15 7 (xpM 18 8 .done))))))))))))) .ret) .skip)) (xR (xtF 4 0 19 (xtO 19 20 (xtF 5 1 21 (xtO 21 22 (xt (.call 162 [xr 20, xr 22]) 23 (xtM 23 9 .done)))))) (.seq (xR (xtM 9 24 (xt (.bin .eql (xr 24) (xi 0)) 25 .done)) (.cond (xr 25) (xR (xtA 3 5 27 (xtA 4 7 28 (xtA 5 9 29 (xt (.call 163 [xr 27, xr 28, xr 29]) 30 (xtM 30 26 (xtE 26 0 31 (xtE 26 1 32 (xt (.alc 48 [zI, zI, zI, zS, zB, zB, zB]) 10 (xS 10 31 7 (xtM 32 11 .done)))))))))) (xR (xtA 10 7 33 (xtM 11 34 (xt (.bsl 34 9 0 [zI, zI, zI, zB, zB, zI, zI, zI, zS] []) 35 (xS 6 33 7 (xtM 34 7 (xtM 35 8 .done)))))) .ret)) .skip)) (.seq (xR (xtM 9 36 (xtF 3 1 37 (xtO 37 38 (xt (.bin .lss (xr 36) (xr 38)) 39 (xtM 39 40 (xG (.fad (xr 4) 4) 41 40 true (xG (.ld (xr 41) 1 false) 42 40 true (xG (.not (xr 42)) 43 40 true (xt (.pick (xr 40) (xr 43) (xb false)) 44 .done))))))))) (.cond (xr 44) (xR (xtF 4 4 45 (.op .t (.sto (xr 45) (xb true) 1) none none .done)) (.seq (.join [6] (xlA 4 7 46 (xpF 4 0 48 (xlO 48 49 (xp (.bld [zI, zI, zI, zB, zB, zI, zI, zI, zS] [(0, (1, (xi 2))), (2, (1, (xr 49))), (5, (1, (xi 1)))]) 50 (.alt (xm (.bsl 22 1 0 [zS] []) 47 (.alt (xm (.bsl 34 9 1 [zI, zI, zI, zB, zB, zI, zI, zI, zS] [(0, (xr 50))]) 51 (.op .m (.sto (xr 6) (xr 46) 7) none none (xpM 47 7 (xpM 51 8 .done)))) (.op .m (.sto (xr 6) (xr 46) 7) none none (xpM 47 7 (xm (.bsl 34 9 1 [zI, zI, zI, zB, zB, zI, zI, zI, zS] [(0, (xr 50))]) 51 (xpM 51 8 .done)))))) (.alt (xm (.bsl 34 9 1 [zI, zI, zI, zB, zB, zI, zI, zI, zS] [(0, (xr 50))]) 51 (.alt (xm (.bsl 22 1 0 [zS] []) 47 (.op .m (.sto (xr 6) (xr 46) 7) none none (xpM 47 7 (xpM 51 8 .done)))) (.op .m (.sto (xr 6) (xr 46) 7) none none (xm (.bsl 22 1 0 [zS] []) 47 (xpM 47 7 (xpM 51 8 .done)))))) (.op .m (.sto (xr 6) (xr 46) 7) none none (.alt (xm (.bsl 22 1 0 [zS] []) 47 (xpM 47 7 (xm (.bsl 34 9 1 [zI, zI, zI, zB, zB, zI, zI, zI, zS] [(0, (xr 50))]) 51 (xpM 51 8 .done)))) (xm (.bsl 34 9 1 [zI, zI, zI, zB, zB, zI, zI, zI, zS] [(0, (xr 50))]) 51 (xm (.bsl 22 1 0 [zS] []) 47 (xpM 47 7 (xpM 51 8 .done))))))))))))) .ret)) .skip)) (xR (xtA 4 7 52 (xt (.bsl 22 1 0 [zS] []) 53 (xt (.bsl 34 9 0 [zI, zI, zI, zB, zB, zI, zI, zI, zS] []) 54 (xS 6 52 7 (xtM 53 7 (xtM 54 8 .done)))))) .ret))))))
theorem ic160_ok : Tryz.f160.body.bind (trC Tryz.prog []) = some ic160 := by kernel_rfl
def fr160 : List FR := [(FR.c 6 7 true), (FR.t 7), (FR.t 8)]
theorem fr160_ok : fres Tryz.prog Tryz.f160.results.toList = some fr160 := by kernel_rfl
def ic152 : IC := (xR (xt (.box 24 (xr 0)) 3 (xt (.box 48 (xr 1)) 4 (xt (.box 34 (xr 2)) 5 (xt (.alc 48 [zI, zI, zI, zS, zB, zB, zB]) 6 (xt (.mv (.const zS)) 7 (xt (.mv (.const zS)) 8 .done)))))) (.seq (xR (xtF 4 6 9 (xtO 9 10 .done)) (.cond (xr 10) (xR (xtA 4 7 11 (xt (.bsl 22 1 0 [zS] []) 12 (xt (.bsl 34 9 0 [zI, zI, zI, zB, zB, zI, zI, zI, zS] []) 13 (xS 6 11 7 (xtM 12 7 (xtM 13 8 .done)))))) .ret) .skip)) (.seq (xR (xtF 5 0 14 (xtO 14 15 (xt (.bin .eql (xr 15) (xi 1)) 16 .done))) (.cond (xr 16) (xR (xtA 3 5 17 (xtA 4 7 18 (xtA 5 9 19 (xt (.call 160 [xr 17, xr 18, xr 19]) 20 (xtE 20 0 21 (xtE 20 1 22 (xtE 20 2 23 (xS 6 21 7 (xtM 22 7 (xtM 23 8 .done)))))))))) .ret) .skip)) (.seq (xR (xtF 5 3 24 (xtO 24 25 .done)) (.cond (xr 25) (xR (xtF 4 4 26 (.op .t (.sto (xr 26) (xb false) 1) none none .done)) (.seq (.join [6] (xlA 4 7 27 (xlA 4 7 29 (.alt (xm (.bsl 22 1 0 [zS] []) 28 (xm (.call 103 [xr 29, (xb true)]) 30 (.alt (xm (.bsl 34 9 1 [zI, zI, zI, zB, zB, zI, zI, zI, zS] [(0, (xr 30))]) 31 (.op .m (.sto (xr 6) (xr 27) 7) none none (xpM 28 7 (xpM 31 8 .done)))) (.op .m (.sto (xr 6) (xr 27) 7) none none (xpM 28 7 (xm (.bsl 34 9 1 [zI, zI, zI, zB, zB, zI, zI, zI, zS] [(0, (xr 30))]) 31 (xpM 31 8 .done))))))) (xm (.call 103 [xr 29, (xb true)]) 30 (.alt (xm (.bsl 22 1 0 [zS] []) 28 (.alt (xm (.bsl 34 9 1 [zI, zI, zI, zB, zB, zI, zI, zI, zS] [(0, (xr 30))]) 31 (.op .m (.sto (xr 6) (xr 27) 7) none none (xpM 28 7 (xpM 31 8 .done)))) (.op .m (.sto (xr 6) (xr 27) 7) none none (xpM 28 7 (xm (.bsl 34 9 1 [zI, zI, zI, zB, zB, zI, zI, zI, zS] [(0, (xr 30))]) 31 (xpM 31 8 .done)))))) (.alt (xm (.bsl 34 9 1 [zI, zI, zI, zB, zB, zI, zI, zI, zS] [(0, (xr 30))]) 31 (.alt (xm (.bsl 22 1 0 [zS] []) 28 (.op .m (.sto (xr 6) (xr 27) 7) none none (xpM 28 7 (xpM 31 8 .done)))) (.op .m (.sto (xr 6) (xr 27) 7) none none (xm (.bsl 22 1 0 [zS] []) 28 (xpM 28 7 (xpM 31 8 .done)))))) (.op .m (.sto (xr 6) (xr 27) 7) none none (.alt (xm (.bsl 22 1 0 [zS] []) 28 (xpM 28 7 (xm (.bsl 34 9 1 [zI, zI, zI, zB, zB, zI, zI, zI, zS] [(0, (xr 30))]) 31 (xpM 31 8 .done)))) (xm (.bsl 34 9 1 [zI, zI, zI, zB, zB, zI, zI, zI, zS] [(0, (xr 30))]) 31 (xm (.bsl 22 1 0 [zS] []) 28 (xpM 28 7 (xpM 31 8 .done))))))))))))) .ret)) .skip)) (xR (xtA 4 7 32 (xt (.bsl 22 1 0 [zS] []) 33 (xt (.bsl 34 9 0 [zI, zI, zI, zB, zB, zI, zI, zI, zS] []) 34 (xS 6 32 7 (xtM 33 7 (xtM 34 8 .done)))))) .ret)))))
theorem ic152_ok : Tryz.f152.body.bind (trC Tryz.prog []) = some ic152 := by kernel_rfl
def fr152 : List FR := [(FR.c 6 7 true), (FR.t 7), (FR.t 8)]
theorem fr152_ok : fres Tryz.prog Tryz.f152.results.toList = some fr152 := by kernel_rfl
def ic133 : IC := (xR (xt (.box 48 (xr 0)) 1 (xt (.mv (xb false)) 2 .done)) (xR (xpF 1 0 3 (xlO 3 4 (xm (.call 65 [xr 4, (xi 0), (xi 7)]) 5 (xpM 5 6 (.op .p (.fad (xr 1) 1) (some 7) (some (6, true)) (.op .l (.ld (xr 7) 1 false) (some 8) (some (6, true)) (.op .m (.call 65 [xr 8, (xi 0), (xi 9999)]) (some 9) (some (6, true)) (xp (.pick (xr 6) (xr 9) (xb false)) 10 (xpM 10 11 (.op .p (.fad (xr 1) 1) (some 12) (some (11, true)) (.op .l (.ld (xr 12) 1 false) (some 13) (some (11, true)) (.op .p (.fad (xr 1) 0) (some 15) (some (11, true)) (.op .l (.ld (xr 15) 1 false) (some 16) (some (11, true)) (.op .m (.call 149 [xr 13]) (some 14) (some (11, true)) (.op .p (.bin .eql (xr 14) (xr 16)) (some 17) (some (11, true)) (xp (.pick (xr 11) (xr 17) (xb false)) 18 (xpM 18 19 (.op .p (.fad (xr 1) 2) (some 20) (some (19, true)) (.op .l (.ld (xr 20) 2 true) (some 21) (some (19, true)) (.op .m (.call 150 [xr 21]) (some 22) (some (19, true)) (xp (.pick (xr 19) (xr 22) (xb false)) 23 (xpM 23 2 .done)))))))))))))))))))))) .ret))
theorem ic133_ok : Tryz.f133.body.bind (trC Tryz.prog []) = some ic133 := by kernel_rfl
def fr133 : List FR := [(FR.t 2)]
theorem fr133_ok : fres Tryz.prog Tryz.f133.results.toList = some fr133 := by kernel_rfl
def ic101 : IC := (xR (xt (.box 48 (xr 0)) 2 (xt (.alc 48 [zI, zI, zI, zS, zB, zB, zB]) 4 (xt (.mv (.const zS)) 5 .done))) (.seq (xR (xtA 2 7 7 (xt (.call 133 [xr 7]) 8 (xtT 8 9 .done))) (.cond (xr 9) (xR (xt (.bld [zI, zI, zI, zS, zB, zB, zB] []) 10 (xt (.bsl 34 9 0 [zI, zI, zI, zB, zB, zI, zI, zI, zS] []) 11 (xS 4 10 7 (xtM 11 5 .done)))) .ret) .skip)) (xR (xtA 2 7 12 (xt (.call 72 [xr 12]) 13 (xt (.alc 48 [zI, zI, zI, zS, zB, zB, zB]) 6 (xS 6 13 7 .done)))) (.seq (xR (xtF 2 5 14 (xtO 14 15 (xtM 1 16 (xt (.eqb false (xr 15) (xr 16)) 17 (xtM 17 18 (xG (.fad (xr 2) 6) 19 18 false (xG (.ld (xr 19) 1 false) 20 18 false (xt (.pick (xr 18) (xb true) (xr 20)) 21 .done)))))))) (.cond (xr 21) (xR (xtA 6 7 22 (xt (.bsl 34 9 0 [zI, zI, zI, zB, zB, zI, zI, zI, zS] []) 23 (xS 4 22 7 (xtM 23 5 .done)))) .ret) .skip)) (xR (xtM 1 24 (xtF 6 5 25 (xS 25 24 1 .done))) (xR (xtF 6 4 26 (.op .t (.sto (xr 26) (xb false) 1) none none .done)) (.seq (.join [4] (xlA 6 7 27 (xlA 6 7 28 (xm (.call 103 [xr 28, (xb false)]) 29 (.alt (xm (.bsl 34 9 1 [zI, zI, zI, zB, zB, zI, zI, zI, zS] [(0, (xr 29))]) 30 (.op .m (.sto (xr 4) (xr 27) 7) none none (xpM 30 5 .done))) (.op .m (.sto (xr 4) (xr 27) 7) none none (xm (.bsl 34 9 1 [zI, zI, zI, zB, zB, zI, zI, zI, zS] [(0, (xr 29))]) 30 (xpM 30 5 .done)))))))) .ret)))))))
theorem ic101_ok : Tryz.f101.body.bind (trC Tryz.prog []) = some ic101 := by kernel_rfl
def fr101 : List FR := [(FR.c 4 7 true), (FR.t 5)]
theorem fr101_ok : fres Tryz.prog Tryz.f101.results.toList = some fr101 := by kernel_rfl
end Go.Proofs.YtpblmlaahapohaaGreat
