/- Lists looked through, and copied. -/
import Derived.Test.YtpjaidjnamngaaaGreatM10
namespace Go.Proofs.YtpjaidjnamngaaaGreat
set_option linter.unusedVariables false
set_option linter.unusedSimpArgs false
open Go.RowKit
set_option maxRecDepth 100000
set_option maxHeartbeats 1000000
theorem all_take {α : Type} {p : α → Bool} {l : List α} {i : Nat} {x : α} (hx : l[i]? = some x) (ht : (l.take i).all p = true) (hp : p x = true) : (l.take (i + 1)).all p = true := by
  rw [List.take_add_one, List.all_append, ht, hx]; simp [hp]
theorem all_not {α : Type} {p : α → Bool} {l : List α} {i : Nat} {x : α} (hx : l[i]? = some x) (hp : p x = false) : l.all p = false := List.all_eq_false.2 ⟨x, List.mem_of_getElem? hx, by simp [hp]⟩
def mostB (most : Int) (p : Part) : Bool := partOk p && decide ((p.data.length : Int) ≤ most)
theorem putV_app {c r ds : List Value} {n o : Nat} (h : c.length = n) : putV (c ++ r) (n + o) ds = c ++ putV r o ds := by
  subst h
  simp [putV, List.take_append, List.drop_append, Nat.add_assoc, List.take_of_length_le, List.drop_of_length_le]
theorem putV_app' {c r ds : List Value} {o : Nat} (h : o + ds.length ≤ c.length) : putV (c ++ r) o ds = putV c o ds ++ r := by
  unfold putV
  rw [List.take_append_of_le_length (by omega), List.drop_append_of_le_length h]
  simp
theorem Els.put {α : Type} {d : Rep α} {z : Zc} {y : α} {ds : List Value} {o : Nat} : ∀ {xs : List α} {cs : List Value} {k : Nat}, Els d z xs cs → ∀ {x : α}, xs[k]? = some x → (∀ c, d.K z x c → d.K z y (putV c o ds)) → o + ds.length ≤ d.sz → Els d z (xs.set k y) (putV cs (k * d.sz + o) ds)
  | [], cs, k, h, x, hk, hy, ho => by simp at hk
  | x0 :: xs, cs, 0, h, x, hk, hy, ho => by
    obtain ⟨c, r, rfl, h1, h2⟩ := h
    simp only [List.getElem?_cons_zero, Option.some.injEq] at hk
    subst hk
    rw [Nat.zero_mul, Nat.zero_add, putV_app' (by rw [d.len h1]; exact ho)]
    exact ⟨_, r, rfl, hy c h1, h2⟩
  | x0 :: xs, cs, k + 1, h, x, hk, hy, ho => by
    obtain ⟨c, r, rfl, h1, h2⟩ := h
    simp only [List.getElem?_cons_succ] at hk
    rw [Nat.succ_mul, show k * d.sz + d.sz + o = d.sz + (k * d.sz + o) by omega, putV_app (d.len h1)]
    exact ⟨c, _, rfl, h1, h2.put hk hy ho⟩
theorem set_same {α : Type} {l : List α} {k : Nat} {x : α} (h : l[k]? = some x) : l.set k x = l := by
  obtain ⟨hk, e⟩ := List.getElem?_eq_some_iff.1 h
  rw [← e]; exact List.set_getElem_self hk
theorem Els.data {z : Zc} {l : List Part} {cs : List Value} {k : Nat} {p : Part} {v : Value} (h : Els pRep z l cs) (hk : l[k]? = some p) (hv : By z p.data v) : Els pRep z l (putV cs (k * 3 + 2) [v]) := by
  have := h.put (k := k) (y := p) (ds := [v]) (o := 2) hk (fun c hc => by obtain ⟨u, rfl, _⟩ := hc; exact ⟨v, rfl, hv⟩) (Nat.le_refl 3)
  rwa [set_same hk] at this
theorem vsI.formR {P : Program} {ic : IC} {K : Exit → St → Prop} {s : St} (k : Nat) {e sz n : Nat} {v : Value} {cs : List Value} (hk : look k s.L = some (.own (rowA e sz v n cs))) (h : ∀ A c, v = .slice A n c → n ≤ c → vsI P ic K s) : vsI P ic K s := fun C ρ a w hs => by
  obtain ⟨F, hh, hw⟩ := hs.mem
  obtain ⟨F1, F2, ⟨hrow, _⟩, _⟩ := hh.pick hk
  obtain ⟨A', c', e1, e2, _⟩ := hrow.rd
  exact h A' c' e1 e2 C ρ a w hs
theorem FinV.atR {fr : List FR} {s : St} {R : Value → Zc → Asrt → Prop} (k : Nat) {e sz n c : Nat} {A : Option Addr} {cs : List Value} (hk : look k s.L = some (.own (rowA e sz (.slice A n c) n cs))) (hn : 0 < n) (h : IsAt A → FinV fr s R) : FinV fr s R := fun C ρ a w hs => by
  obtain ⟨F, hh, hw⟩ := hs.mem
  obtain ⟨F1, F2, ⟨hrow, _⟩, _⟩ := hh.pick hk
  rcases hrow.2 with ⟨_, e0⟩ | ⟨g, o, cap, cur, e1, _⟩
  · omega
  · injection e1 with e1 _ _
    exact h ⟨g, o, e1⟩ C ρ a w hs
theorem FinV.formR {fr : List FR} {s : St} {R : Value → Zc → Asrt → Prop} (k : Nat) {e sz n : Nat} {v : Value} {cs : List Value} (hk : look k s.L = some (.own (rowA e sz v n cs))) (h : ∀ A c, v = .slice A n c → n ≤ c → FinV fr s R) : FinV fr s R := fun C ρ a w hs => by
  obtain ⟨F, hh, hw⟩ := hs.mem
  obtain ⟨F1, F2, ⟨hrow, _⟩, _⟩ := hh.pick hk
  obtain ⟨A', c', e1, e2, _⟩ := hrow.rd
  exact h A' c' e1 e2 C ρ a w hs
theorem l6parts_s (l : List Part) (v : Value) (most : Int) (z : Zc) (h : Sl pRep z l v) (hl : l.length ≤ 1000000000) (hp : ∀ p ∈ l, p.data.length ≤ 1000000000) :
    PSpec Tryz.prog 146 [v, .int .i64 most] z fun u z' => u = .bool (l.all (mostB most)) ∧ z = z' := by
  obtain ⟨A, k, cs, rfl, hk, he, hr⟩ := h
  (refine pspec_enter Tryz.func146 ic146_ok fr146_ok Tryz.ntmps146 ?_; simp only [seval, go_sem, ic146, fr146])
  ((try simp only [seval, go_sem]); repeat ((first | with_reducible refine vsI.id ?_ | with_reducible refine vcI_cond ?_); (try simp only [seval, go_sem])))
  refine loop_upd (ι := Nat) (n := 0) (fun i => i ≤ l.length ∧ (l.take i).all (mostB most) = true) (fun i => [(5, .c (.v (.int .i64 i)))]) (fun _ => []) (fun _ => z) (fun i => l.length - i) 0 (by simp) (by (simp only [wrI, wrR, anyL, st, List.append_nil, List.nil_append, List.cons_append]); exact rfl) ?_ ?_
  · (refine Le.of ?_ ?_ rfl ?_ ⟨rfl, rfl⟩; rotate_left; (repeat (first | exact trivial | refine ⟨rfl, ?_⟩)); (first | exact Nat.le_refl _ | decide | (dsimp only; omega)); (simp (disch := omega) only [LeT, updL, st, reduceCtorEq, true_or, or_true, false_or, and_true, true_and, SV.c.injEq, SC.v.injEq, Value.int.injEq, Value.slice.injEq, wrap_in, Int.natCast_add, Int.natCast_one, Int.natCast_zero, Int.cast_ofNat_Int]) <;> (try (repeat' constructor)) <;> (first | rfl | omega))
  · rintro i ⟨hi, ht⟩
    ((try simp only [seval, go_sem]); repeat ((first | with_reducible refine vsI.id ?_ | with_reducible refine vcI_cond ?_); (try simp only [seval, go_sem])))
    (with_reducible refine condI.split (fun hg => ?_) (fun hg => ?_) <;> (try simp only [hg]) <;> (try simp only [seval, go_sem]))
    · ((try simp only [seval, go_sem]); repeat ((first | with_reducible refine vsI.id ?_ | with_reducible refine vcI_cond ?_); (try simp only [seval, go_sem])))
      have hi' : i < l.length := by simp at hg; omega
      obtain ⟨x, hx⟩ : ∃ x, l[i]? = some x := ⟨_, List.getElem?_eq_getElem hi'⟩
      obtain ⟨c1, ⟨v, rfl, hb⟩, hr1⟩ := he.at hr hx
      obtain ⟨A1, c1, rfl, hc1, hB1, hrb⟩ := hb.form
      (refine ⟨⟨by omega, by omega, he.isAt hr (by decide) hi'⟩, ?_⟩; (try simp only [seval, go_sem]))
      (refine ldF.agg _ rfl (by first | exact .inl hr1 | exact hr1) ?_; (try simp only [seval, go_sem]))
      (try with_reducible refine callM.toT ?_); refine callP (partok_s x A1 _ _ (hp x (List.mem_of_getElem? hx))) rfl rfl ?_; rintro _ _ - ⟨rfl, rfl⟩; (try simp only [seval, go_sem]); ((try simp only [seval, go_sem]); repeat ((first | with_reducible refine vsI.id ?_ | with_reducible refine vcI_cond ?_); (try simp only [seval, go_sem])))
      (with_reducible refine guardR.split (fun hg => ?_) (fun hg => ?_) <;> (try simp only [hg]) <;> simp only [seval, go_sem])
      · ((try simp only [seval, go_sem]); repeat ((first | with_reducible refine vsI.id ?_ | with_reducible refine vcI_cond ?_); (try simp only [seval, go_sem])))
        (((try simp only [seval, go_sem]); repeat ((first | with_reducible refine vsI.id ?_ | with_reducible refine vcI_cond ?_); (try simp only [seval, go_sem]))); with_reducible refine FinV.of ?_; simp only [finE, finS, gt, look, SV.toV, SC.toV, allV, tupV, List.map_cons, List.map_nil, List.length_cons, List.length_nil, Nat.reduceAdd, Nat.reduceEqDiff, reduceCtorEq, if_true, if_false, reduceIte, Nat.succ_ne_self, true_and, List.getElem?_cons_zero, Nat.zero_add, Nat.add_zero])
        have : l.all (mostB most) = false := all_not hx (by simp only [mostB]; simp at hg; simp [hg])
        simp [this]
      · have hok : partOk x = true := by simpa using hg
        (refine ⟨⟨by omega, by omega, he.isAt hr (by decide) hi'⟩, ?_⟩; (try simp only [seval, go_sem]))
        (refine ldF.one _ (by first | exact .inl (hr1.cell 2 rfl) | exact (hr1.cell 2 rfl)) ?_; (try simp only [seval, go_sem]))
        ((try simp only [seval, go_sem]); repeat ((first | with_reducible refine vsI.id ?_ | with_reducible refine vcI_cond ?_); (try simp only [seval, go_sem])))
        (with_reducible refine condI.split (fun hg => ?_) (fun hg => ?_) <;> (try simp only [hg]) <;> (try simp only [seval, go_sem]))
        · (((try simp only [seval, go_sem]); repeat ((first | with_reducible refine vsI.id ?_ | with_reducible refine vcI_cond ?_); (try simp only [seval, go_sem]))); with_reducible refine FinV.of ?_; simp only [finE, finS, gt, look, SV.toV, SC.toV, allV, tupV, List.map_cons, List.map_nil, List.length_cons, List.length_nil, Nat.reduceAdd, Nat.reduceEqDiff, reduceCtorEq, if_true, if_false, reduceIte, Nat.succ_ne_self, true_and, List.getElem?_cons_zero, Nat.zero_add, Nat.add_zero])
          have : l.all (mostB most) = false := all_not hx (by simp only [mostB]; simp at hg; simp; omega)
          simp [this]
        · ((try simp only [seval, go_sem]); repeat ((first | with_reducible refine vsI.id ?_ | with_reducible refine vcI_cond ?_); (try simp only [seval, go_sem])))
          refine ⟨i + 1, ⟨by omega, all_take (p := mostB most) hx ht (by simp only [mostB, hok]; simp at hg; simp; omega)⟩, by omega, ?_⟩
          (refine Le.of ?_ ?_ rfl ?_ ⟨rfl, rfl⟩; rotate_left; (repeat (first | exact trivial | refine ⟨rfl, ?_⟩)); (first | exact Nat.le_refl _ | decide | (dsimp only; omega)); (simp (disch := omega) only [LeT, updL, st, reduceCtorEq, true_or, or_true, false_or, and_true, true_and, SV.c.injEq, SC.v.injEq, Value.int.injEq, Value.slice.injEq, wrap_in, Int.natCast_add, Int.natCast_one, Int.natCast_zero, Int.cast_ofNat_Int]) <;> (try (repeat' constructor)) <;> (first | rfl | omega))
    · ((try simp only [seval, go_sem]); repeat ((first | with_reducible refine vsI.id ?_ | with_reducible refine vcI_cond ?_); (try simp only [seval, go_sem])))
      (((try simp only [seval, go_sem]); repeat ((first | with_reducible refine vsI.id ?_ | with_reducible refine vcI_cond ?_); (try simp only [seval, go_sem]))); with_reducible refine FinV.of ?_; simp only [finE, finS, gt, look, SV.toV, SC.toV, allV, tupV, List.map_cons, List.map_nil, List.length_cons, List.length_nil, Nat.reduceAdd, Nat.reduceEqDiff, reduceCtorEq, if_true, if_false, reduceIte, Nat.succ_ne_self, true_and, List.getElem?_cons_zero, Nat.zero_add, Nat.add_zero])
      have : i = l.length := by simp at hg; omega
      subst this
      simpa using ht.symm
structure LstS where
  i : Nat
  v : Value
  cs : List Value
  z : Zc
theorem atyS : AppTy Tryz.prog 35 22 1 := AppTy.of (by kernel_rfl)
theorem l6list_s (l : List Part) (v : Value) (z : Zc) (h : Sl pRep z l v) (hl : l.length ≤ 1000000) (hp : ∀ p ∈ l, p.data.length ≤ 1000000000) :
    Spec Tryz.prog 122 [v] z emp fun u z' A' => ∃ A c cs, u = .slice A l.length c ∧ A' = rowA 88 3 (.slice A l.length c) l.length cs ∧ l.length ≤ c ∧ Els pRep z' l cs := by
  obtain ⟨A, k, cs, rfl, hk, he, hr⟩ := h
  (refine spec_enter0 Tryz.func122 ic122_ok fr122_ok Tryz.ntmps122 ?_; simp only [seval, go_sem, ic122, fr122])
  ((try simp only [seval, go_sem]); repeat ((first | with_reducible refine vsI.id ?_ | with_reducible refine vcI_cond ?_); (try simp only [seval, go_sem])))
  refine loopV.toRow 90 0 rfl rfl (m := 0) (sz := 3) rfl (by omega) (fun b0 => ?_)
  simp only [seval, go_sem, rowSt, subV, subC, subE, subL]
  refine loop_upd (ι := LstS) (n := 1) (fun i => z ≤ i.z ∧ i.i ≤ l.length ∧ Els pRep i.z (l.take i.i) i.cs) (fun i => [(4, .c (.v (.int .i64 i.i))), (3, .c (.v i.v))]) (fun i => [(90, .own (rowA 88 3 i.v i.i i.cs))]) (fun i => i.z) (fun i => l.length - i.i) ⟨0, .slice (some ⟨b0, 0, none⟩) 0 0, [], z⟩ ⟨Zc.rfl' _, by simp, rfl⟩ (by (simp only [wrI, wrR, anyL, st, List.append_nil, List.nil_append, List.cons_append]); exact rfl) ?_ ?_
  · (refine Le.of ?_ ?_ rfl ?_ ⟨rfl, rfl⟩; rotate_left; (repeat (first | exact trivial | refine ⟨rfl, ?_⟩)); (first | exact Nat.le_refl _ | decide | (dsimp only; omega)); (simp (disch := omega) only [LeT, updL, st, reduceCtorEq, true_or, or_true, false_or, and_true, true_and, SV.c.injEq, SC.v.injEq, Value.int.injEq, Value.slice.injEq, wrap_in, Int.natCast_add, Int.natCast_one, Int.natCast_zero, Int.cast_ofNat_Int]) <;> (try (repeat' constructor)) <;> (first | rfl | omega))
  · rintro ⟨i, v, ds, z1⟩ ⟨hz1, hi, hd⟩
    dsimp only at *
    ((try simp only [seval, go_sem]); repeat ((first | with_reducible refine vsI.id ?_ | with_reducible refine vcI_cond ?_); (try simp only [seval, go_sem])))
    (with_reducible refine condI.split (fun hg => ?_) (fun hg => ?_) <;> (try simp only [hg]) <;> (try simp only [seval, go_sem]))
    · ((try simp only [seval, go_sem]); repeat ((first | with_reducible refine vsI.id ?_ | with_reducible refine vcI_cond ?_); (try simp only [seval, go_sem])))
      have hi' : i < l.length := by simp at hg; omega
      obtain ⟨x, hx⟩ : ∃ x, l[i]? = some x := ⟨_, List.getElem?_eq_getElem hi'⟩
      obtain ⟨c1, ⟨v, rfl, hb⟩, hr1⟩ := (he.mono hz1).at (hr.mono hz1) hx
      obtain ⟨A1, c1, rfl, hc1, hB1, hrb⟩ := hb.form
      have hat : IsAt A := he.isAt hr (by decide) hi'
      (refine ⟨⟨by omega, by omega, hat⟩, ?_⟩; (try simp only [seval, go_sem]))
      (refine ldF.one _ (by first | exact .inl (hr1.cell 0 rfl) | exact (hr1.cell 0 rfl)) ?_; (try simp only [seval, go_sem]))
      (refine ⟨⟨by omega, by omega, hat⟩, ?_⟩; (try simp only [seval, go_sem]))
      (refine ldF.one _ (by first | exact .inl (hr1.cell 1 rfl) | exact (hr1.cell 1 rfl)) ?_; (try simp only [seval, go_sem]))
      (refine ⟨⟨by omega, by omega, hat⟩, ?_⟩; (try simp only [seval, go_sem]))
      (refine ldF.one _ (by first | exact .inl (hr1.cell 2 rfl) | exact (hr1.cell 2 rfl)) ?_; (try simp only [seval, go_sem]))
      have hxp := hp x (List.mem_of_getElem? hx)
      (try with_reducible refine appM.toT ?_); (refine appM_empty 99 atyB rfl (by first | exact .inl ⟨_, rfl⟩ | exact .inr ⟨_, _, rfl⟩) rfl hrb (by first | omega | (simp <;> omega)) (bc_one _) (by omega) (fun A2 c2 z2 hz2 hc2 hr2 => ?_)); dsimp only at hz2; simp only [seval, go_sem]; ((try simp only [seval, go_sem]); repeat ((first | with_reducible refine vsI.id ?_ | with_reducible refine vcI_cond ?_); (try simp only [seval, go_sem])))
      (try with_reducible refine appM.toT ?_); (refine appM_new 90 atyP rfl rfl rfl rfl rfl rfl rfl (by simp [Value.oneCell']) (by omega) (fun v3 => ?_)); simp only [seval, go_sem]; ((try simp only [seval, go_sem]); repeat ((first | with_reducible refine vsI.id ?_ | with_reducible refine vcI_cond ?_); (try simp only [seval, go_sem])))
      refine ⟨⟨i + 1, v3, ds ++ [.int .i64 x.seg, .int .i64 x.len, .slice A2 x.data.length c2], z2⟩, ⟨Zc.trans' hz1 hz2, by dsimp only; omega, ?_⟩, by dsimp only; omega, ?_⟩
      rotate_left
      · (refine Le.of ?_ ?_ rfl ?_ ⟨rfl, rfl⟩; rotate_left; (repeat (first | exact trivial | refine ⟨rfl, ?_⟩)); (first | exact Nat.le_refl _ | decide | (dsimp only; omega)); (simp (disch := omega) only [LeT, updL, st, reduceCtorEq, true_or, or_true, false_or, and_true, true_and, SV.c.injEq, SC.v.injEq, Value.int.injEq, Value.slice.injEq, wrap_in, Int.natCast_add, Int.natCast_one, Int.natCast_zero, Int.cast_ofNat_Int]) <;> (try (repeat' constructor)) <;> (first | rfl | omega))
      · dsimp only
        rw [List.take_add_one, hx]
        exact (hd.mono hz2).append (Els.single ⟨_, rfl, By.mk hc2 hB1 hr2⟩)
    · ((try simp only [seval, go_sem]); repeat ((first | with_reducible refine vsI.id ?_ | with_reducible refine vcI_cond ?_); (try simp only [seval, go_sem])))
      refine FinV.formR 90 rfl fun A3 c3 hv3 hc3 => ?_
      subst hv3
      (((try simp only [seval, go_sem]); repeat ((first | with_reducible refine vsI.id ?_ | with_reducible refine vcI_cond ?_); (try simp only [seval, go_sem]))); refine FinV.own 90 rfl ?_; simp only [finE, finS, gt, look, SV.toV, SC.toV, allV, tupV, List.map_cons, List.map_nil, List.length_cons, List.length_nil, Nat.reduceAdd, Nat.reduceEqDiff, reduceCtorEq, if_true, if_false, reduceIte, Nat.succ_ne_self, true_and, List.getElem?_cons_zero, Nat.zero_add, Nat.add_zero])
      have : i = l.length := by simp at hg; omega
      subst this
      exact ⟨_, _, _, rfl, rfl, hc3, by simpa using hd⟩
theorem l7sdus_s (l : List (List Int)) (v : Value) (z : Zc) (h : Sl sduRep z l v) (hl : l.length ≤ 1000000) (hp : ∀ p ∈ l, p.length ≤ 1000000000) :
    Spec Tryz.prog 95 [v] z emp fun u z' A' => ∃ A c cs, u = .slice A l.length c ∧ A' = rowA 22 1 (.slice A l.length c) l.length cs ∧ l.length ≤ c ∧ Els sduRep z' l cs := by
  obtain ⟨A, k, cs, rfl, hk, he, hr⟩ := h
  (refine spec_enter0 Tryz.func95 ic95_ok fr95_ok Tryz.ntmps95 ?_; simp only [seval, go_sem, ic95, fr95])
  ((try simp only [seval, go_sem]); repeat ((first | with_reducible refine vsI.id ?_ | with_reducible refine vcI_cond ?_); (try simp only [seval, go_sem])))
  refine loopV.toRow 90 0 rfl rfl (m := 0) (sz := 1) rfl (by omega) (fun b0 => ?_)
  simp only [seval, go_sem, rowSt, subV, subC, subE, subL]
  refine loop_upd (ι := LstS) (n := 1) (fun i => z ≤ i.z ∧ i.i ≤ l.length ∧ Els sduRep i.z (l.take i.i) i.cs) (fun i => [(4, .c (.v (.int .i64 i.i))), (3, .c (.v i.v))]) (fun i => [(90, .own (rowA 22 1 i.v i.i i.cs))]) (fun i => i.z) (fun i => l.length - i.i) ⟨0, .slice (some ⟨b0, 0, none⟩) 0 0, [], z⟩ ⟨Zc.rfl' _, by simp, rfl⟩ (by (simp only [wrI, wrR, anyL, st, List.append_nil, List.nil_append, List.cons_append]); exact rfl) ?_ ?_
  · (refine Le.of ?_ ?_ rfl ?_ ⟨rfl, rfl⟩; rotate_left; (repeat (first | exact trivial | refine ⟨rfl, ?_⟩)); (first | exact Nat.le_refl _ | decide | (dsimp only; omega)); (simp (disch := omega) only [LeT, updL, st, reduceCtorEq, true_or, or_true, false_or, and_true, true_and, SV.c.injEq, SC.v.injEq, Value.int.injEq, Value.slice.injEq, wrap_in, Int.natCast_add, Int.natCast_one, Int.natCast_zero, Int.cast_ofNat_Int]) <;> (try (repeat' constructor)) <;> (first | rfl | omega))
  · rintro ⟨i, v, ds, z1⟩ ⟨hz1, hi, hd⟩
    dsimp only at *
    ((try simp only [seval, go_sem]); repeat ((first | with_reducible refine vsI.id ?_ | with_reducible refine vcI_cond ?_); (try simp only [seval, go_sem])))
    (with_reducible refine condI.split (fun hg => ?_) (fun hg => ?_) <;> (try simp only [hg]) <;> (try simp only [seval, go_sem]))
    · ((try simp only [seval, go_sem]); repeat ((first | with_reducible refine vsI.id ?_ | with_reducible refine vcI_cond ?_); (try simp only [seval, go_sem])))
      have hi' : i < l.length := by simp at hg; omega
      obtain ⟨x, hx⟩ : ∃ x, l[i]? = some x := ⟨_, List.getElem?_eq_getElem hi'⟩
      obtain ⟨c1, ⟨v, rfl, hb⟩, hr1⟩ := (he.mono hz1).at (hr.mono hz1) hx
      obtain ⟨A1, c1, rfl, hc1, hB1, hrb⟩ := By.form hb
      have hat : IsAt A := he.isAt hr (by decide) hi'
      (refine ⟨⟨by omega, by omega, hat⟩, ?_⟩; (try simp only [seval, go_sem]))
      (refine ldF.one _ (by first | exact .inl hr1 | exact hr1) ?_; (try simp only [seval, go_sem]))
      have hxp := hp x (List.mem_of_getElem? hx)
      (try with_reducible refine appM.toT ?_); (refine appM_empty 99 atyB rfl (by first | exact .inl ⟨_, rfl⟩ | exact .inr ⟨_, _, rfl⟩) rfl hrb (by first | omega | (simp <;> omega)) (bc_one _) (by omega) (fun A2 c2 z2 hz2 hc2 hr2 => ?_)); dsimp only at hz2; simp only [seval, go_sem]; ((try simp only [seval, go_sem]); repeat ((first | with_reducible refine vsI.id ?_ | with_reducible refine vcI_cond ?_); (try simp only [seval, go_sem])))
      (try with_reducible refine appM.toT ?_); (refine appM_new 90 atyS rfl rfl rfl rfl rfl rfl rfl (by simp [Value.oneCell']) (by omega) (fun v3 => ?_)); simp only [seval, go_sem]; ((try simp only [seval, go_sem]); repeat ((first | with_reducible refine vsI.id ?_ | with_reducible refine vcI_cond ?_); (try simp only [seval, go_sem])))
      refine ⟨⟨i + 1, v3, ds ++ [.slice A2 x.length c2], z2⟩, ⟨Zc.trans' hz1 hz2, by dsimp only; omega, ?_⟩, by dsimp only; omega, ?_⟩
      rotate_left
      · (refine Le.of ?_ ?_ rfl ?_ ⟨rfl, rfl⟩; rotate_left; (repeat (first | exact trivial | refine ⟨rfl, ?_⟩)); (first | exact Nat.le_refl _ | decide | (dsimp only; omega)); (simp (disch := omega) only [LeT, updL, st, reduceCtorEq, true_or, or_true, false_or, and_true, true_and, SV.c.injEq, SC.v.injEq, Value.int.injEq, Value.slice.injEq, wrap_in, Int.natCast_add, Int.natCast_one, Int.natCast_zero, Int.cast_ofNat_Int]) <;> (try (repeat' constructor)) <;> (first | rfl | omega))
      · dsimp only
        rw [List.take_add_one, hx]
        exact (hd.mono hz2).append (Els.single ⟨_, rfl, By.mk hc2 hB1 hr2⟩)
    · ((try simp only [seval, go_sem]); repeat ((first | with_reducible refine vsI.id ?_ | with_reducible refine vcI_cond ?_); (try simp only [seval, go_sem])))
      refine FinV.formR 90 rfl fun A3 c3 hv3 hc3 => ?_
      subst hv3
      (((try simp only [seval, go_sem]); repeat ((first | with_reducible refine vsI.id ?_ | with_reducible refine vcI_cond ?_); (try simp only [seval, go_sem]))); refine FinV.own 90 rfl ?_; simp only [finE, finS, gt, look, SV.toV, SC.toV, allV, tupV, List.map_cons, List.map_nil, List.length_cons, List.length_nil, Nat.reduceAdd, Nat.reduceEqDiff, reduceCtorEq, if_true, if_false, reduceIte, Nat.succ_ne_self, true_and, List.getElem?_cons_zero, Nat.zero_add, Nat.add_zero])
      have : i = l.length := by simp at hg; omega
      subst this
      exact ⟨_, _, _, rfl, rfl, hc3, by simpa using hd⟩
/-- clone of pieces, one's own. -/
theorem scloneO (A : Option Addr) (n c : Nat) (cs : List Value) (z : Zc) (hr : RdAt z A 0 cs) (hl : cs.length = n * 3) (h1 : ∀ u ∈ cs, u.oneCell' = true) (hb : n ≤ 1000000000) :
    Spec Tryz.prog 65 [.slice A n c] z emp fun v z' A' => ∃ A2 c2 B, v = .slice A2 n c2 ∧ n ≤ c2 ∧ A' = rowA 88 3 (.slice B n (if n = 0 then 0 else c2)) n cs ∧ (0 < n → B = A2 ∧ IsAt A2) := by
  (refine spec_enter0 Tryz.func65 ic65_ok fr65_ok Tryz.ntmps65 ?_; simp only [seval, go_sem, ic65, fr65])
  by_cases hn : n = 0
  · subst hn
    have hcs : cs = [] := List.eq_nil_of_length_eq_zero (by omega)
    subst hcs
    ((try simp only [seval, go_sem]); repeat ((first | with_reducible refine vsI.id ?_ | with_reducible refine vcI_cond ?_); (try simp only [seval, go_sem])))
    (with_reducible refine condI.split (fun hg => ?_) (fun hg => ?_) <;> (try simp only [hg]) <;> (try simp only [seval, go_sem]))
    · ((try simp only [seval, go_sem]); repeat ((first | with_reducible refine vsI.id ?_ | with_reducible refine vcI_cond ?_); (try simp only [seval, go_sem])))
      refine FinV.tf (Tf.nilRow 90 88 3 rfl) ?_
      dsimp only
      (((try simp only [seval, go_sem]); repeat ((first | with_reducible refine vsI.id ?_ | with_reducible refine vcI_cond ?_); (try simp only [seval, go_sem]))); refine FinV.own 90 rfl ?_; simp only [finE, finS, gt, look, SV.toV, SC.toV, allV, tupV, List.map_cons, List.map_nil, List.length_cons, List.length_nil, Nat.reduceAdd, Nat.reduceEqDiff, reduceCtorEq, if_true, if_false, reduceIte, Nat.succ_ne_self, true_and, List.getElem?_cons_zero, Nat.zero_add, Nat.add_zero])
      first | exact ⟨_, _, _, rfl, rfl⟩ | exact ⟨_, _, _, rfl, by omega, rfl⟩ | exact ⟨_, _, _, rfl, rfl, by omega⟩
    · ((try simp only [seval, go_sem]); repeat ((first | with_reducible refine vsI.id ?_ | with_reducible refine vcI_cond ?_); (try simp only [seval, go_sem])))
      (try with_reducible refine appM.toT ?_); (refine appM_zero atyP (by first | exact .inl ⟨_, _, _, Nat.le_refl _, rfl⟩ | exact .inr ⟨_, _, rfl⟩) rfl ?_); simp only [seval, go_sem]; ((try simp only [seval, go_sem]); repeat ((first | with_reducible refine vsI.id ?_ | with_reducible refine vcI_cond ?_); (try simp only [seval, go_sem])))
      (refine FinV.frz 0 rfl rfl (fun b z1 hz1 hr1 => ?_)); dsimp only at hz1; simp only [seval, go_sem, Go.Proofs.YtpjaidjnamngaaaGreat.frz, subV, subC, subE, subL]
      refine FinV.tf (Tf.nilRow 90 88 3 rfl) ?_
      dsimp only
      (((try simp only [seval, go_sem]); repeat ((first | with_reducible refine vsI.id ?_ | with_reducible refine vcI_cond ?_); (try simp only [seval, go_sem]))); refine FinV.own 90 rfl ?_; simp only [finE, finS, gt, look, SV.toV, SC.toV, allV, tupV, List.map_cons, List.map_nil, List.length_cons, List.length_nil, Nat.reduceAdd, Nat.reduceEqDiff, reduceCtorEq, if_true, if_false, reduceIte, Nat.succ_ne_self, true_and, List.getElem?_cons_zero, Nat.zero_add, Nat.add_zero])
      first | exact ⟨_, _, _, rfl, rfl⟩ | exact ⟨_, _, _, rfl, by omega, rfl⟩ | exact ⟨_, _, _, rfl, rfl, by omega⟩
  · ((try simp only [seval, go_sem]); repeat ((first | with_reducible refine vsI.id ?_ | with_reducible refine vcI_cond ?_); (try simp only [seval, go_sem])))
    (with_reducible refine condI.split (fun hg => ?_) (fun hg => ?_) <;> (try simp only [hg]) <;> (try simp only [seval, go_sem]))
    · exfalso
      cases A with
      | none => obtain ⟨b, o, e, _⟩ := hr (List.ne_nil_of_length_pos (by omega)); cases e
      | some a => simp at hg
    · ((try simp only [seval, go_sem]); repeat ((first | with_reducible refine vsI.id ?_ | with_reducible refine vcI_cond ?_); (try simp only [seval, go_sem])))
      (try with_reducible refine appM.toT ?_); (refine appM_emptyO 90 atyP rfl (by first | exact .inl ⟨_, rfl⟩ | exact .inr ⟨_, _, rfl⟩) rfl (hr) (by first | omega | (simp <;> omega)) (h1) (by omega) (by omega) (fun A2 c2 hc2 => ?_)); simp only [seval, go_sem]; ((try simp only [seval, go_sem]); repeat ((first | with_reducible refine vsI.id ?_ | with_reducible refine vcI_cond ?_); (try simp only [seval, go_sem])))
      refine FinV.atR 90 rfl (by omega) (fun hat => ?_)
      (((try simp only [seval, go_sem]); repeat ((first | with_reducible refine vsI.id ?_ | with_reducible refine vcI_cond ?_); (try simp only [seval, go_sem]))); refine FinV.own 90 rfl ?_; simp only [finE, finS, gt, look, SV.toV, SC.toV, allV, tupV, List.map_cons, List.map_nil, List.length_cons, List.length_nil, Nat.reduceAdd, Nat.reduceEqDiff, reduceCtorEq, if_true, if_false, reduceIte, Nat.succ_ne_self, true_and, List.getElem?_cons_zero, Nat.zero_add, Nat.add_zero])
      exact ⟨A2, c2, A2, rfl, hc2, by rw [if_neg hn], fun _ => ⟨rfl, hat⟩⟩
theorem cloneO (A : Option Addr) (n c : Nat) (cs : List Value) (z : Zc) (hr : RdAt z A 0 cs) (hl : cs.length = n * 3) (h1 : ∀ u ∈ cs, u.oneCell' = true) (hb : n ≤ 1000000000) :
    Spec Tryz.prog 34 [.slice A n c] z emp fun v z' A' => ∃ A2 B, v = .slice A2 n n ∧ A' = rowA 88 3 (.slice B n n) n cs ∧ (0 < n → B = A2 ∧ IsAt A2) := by
  (refine spec_enter0 Tryz.func34 ic34_ok fr34_ok Tryz.ntmps34 ?_; simp only [seval, go_sem, ic34, fr34])
  ((try simp only [seval, go_sem]); repeat ((first | with_reducible refine vsI.id ?_ | with_reducible refine vcI_cond ?_); (try simp only [seval, go_sem])))
  (try with_reducible refine callM.toT ?_); refine callO 90 (scloneO A n c cs z hr hl h1 hb) rfl rfl rfl ?_; rintro v z1 A' hz1 ⟨A2, c2, B, rfl, hc2, rfl, hB⟩; (try simp only [seval, go_sem]); ((try simp only [seval, go_sem]); repeat ((first | with_reducible refine vsI.id ?_ | with_reducible refine vcI_cond ?_); (try simp only [seval, go_sem])))
  (try with_reducible refine callM.toT ?_); refine callP (sclipP A2 n c2 z1 hc2 hb) rfl rfl ?_; rintro v z2 hz2 rfl; (try simp only [seval, go_sem]); ((try simp only [seval, go_sem]); repeat ((first | with_reducible refine vsI.id ?_ | with_reducible refine vcI_cond ?_); (try simp only [seval, go_sem])))
  refine FinV.tf (Tf.cut 90 rfl rfl 0 n n (by omega) (by omega) (by omega) (by split <;> omega) (.inl rfl)) ?_
  (((try simp only [seval, go_sem]); repeat ((first | with_reducible refine vsI.id ?_ | with_reducible refine vcI_cond ?_); (try simp only [seval, go_sem]))); refine FinV.own 90 rfl ?_; simp only [finE, finS, gt, look, SV.toV, SC.toV, allV, tupV, List.map_cons, List.map_nil, List.length_cons, List.length_nil, Nat.reduceAdd, Nat.reduceEqDiff, reduceCtorEq, if_true, if_false, reduceIte, Nat.succ_ne_self, true_and, List.getElem?_cons_zero, Nat.zero_add, Nat.add_zero])
  exact ⟨_, _, rfl, by rw [List.take_of_length_le (by omega)], hB⟩
theorem copyparts_i (l : List Part) (v : Value) (z : Zc) (h : Sl pRep z l v) (hl : l.length ≤ 1000000) (hp : ∀ p ∈ l, p.data.length ≤ 1000000000) :
    PSpec Tryz.prog 63 [v] z fun u z' => ∃ A, u = .slice A l.length l.length ∧ Sl pRep z' l u := by
  obtain ⟨A, k, cs, rfl, hk, he, hr⟩ := h
  (refine pspec_enter Tryz.func63 ic63_ok fr63_ok Tryz.ntmps63 ?_; simp only [seval, go_sem, ic63, fr63])
  ((try simp only [seval, go_sem]); repeat ((first | with_reducible refine vsI.id ?_ | with_reducible refine vcI_cond ?_); (try simp only [seval, go_sem])))
  (try with_reducible refine callM.toT ?_); refine callO 90 (cloneO A l.length k cs z hr he.length he.one (by omega)) rfl rfl rfl ?_; rintro v z1 A' hz1 ⟨A2, B, rfl, rfl, hB⟩; (try simp only [seval, go_sem]); ((try simp only [seval, go_sem]); repeat ((first | with_reducible refine vsI.id ?_ | with_reducible refine vcI_cond ?_); (try simp only [seval, go_sem])))
  refine loop_upd (ι := LstS) (n := 0) (fun i => z1 ≤ i.z ∧ i.i ≤ l.length ∧ Els pRep i.z l i.cs) (fun i => [(10, .c (.v (.int .i64 i.i)))]) (fun i => [(90, .own (rowA 88 3 (.slice B l.length l.length) l.length i.cs))]) (fun i => i.z) (fun i => l.length - i.i) ⟨0, .slice none 0 0, cs, z1⟩ ⟨Zc.rfl' _, by simp, he.mono hz1⟩ (by (simp only [wrI, wrR, anyL, st, List.append_nil, List.nil_append, List.cons_append]); exact rfl) ?_ ?_
  · (refine Le.of ?_ ?_ rfl ?_ ⟨rfl, rfl⟩; rotate_left; (repeat (first | exact trivial | refine ⟨rfl, ?_⟩)); (first | exact Nat.le_refl _ | decide | (dsimp only; omega)); (simp (disch := omega) only [LeT, updL, st, reduceCtorEq, true_or, or_true, false_or, and_true, true_and, SV.c.injEq, SC.v.injEq, Value.int.injEq, Value.slice.injEq, wrap_in, Int.natCast_add, Int.natCast_one, Int.natCast_zero, Int.cast_ofNat_Int]) <;> (try (repeat' constructor)) <;> (first | rfl | omega))
  · rintro ⟨i, v, ds, z2⟩ ⟨hz2, hi, hd⟩
    dsimp only at *
    ((try simp only [seval, go_sem]); repeat ((first | with_reducible refine vsI.id ?_ | with_reducible refine vcI_cond ?_); (try simp only [seval, go_sem])))
    (with_reducible refine condI.split (fun hg => ?_) (fun hg => ?_) <;> (try simp only [hg]) <;> (try simp only [seval, go_sem]))
    · ((try simp only [seval, go_sem]); repeat ((first | with_reducible refine vsI.id ?_ | with_reducible refine vcI_cond ?_); (try simp only [seval, go_sem])))
      have hi' : i < l.length := by simp at hg; omega
      obtain ⟨x, hx⟩ : ∃ x, l[i]? = some x := ⟨_, List.getElem?_eq_getElem hi'⟩
      obtain ⟨rfl, hat⟩ := hB (by omega)
      obtain ⟨c1, ⟨v, rfl, hb⟩, hg1⟩ := hd.get hx
      have hxp := hp x (List.mem_of_getElem? hx)
      obtain ⟨A1, c1, rfl, hc1, hB1, hrb⟩ := hb.form
      (refine ⟨⟨by omega, by omega, hat⟩, ?_⟩; (try simp only [seval, go_sem]))
      (refine ldF.agg _ rfl (by first | exact .inl (.inr ⟨90, _, _, _, _, _, rfl, hg1⟩) | exact (.inr ⟨90, _, _, _, _, _, rfl, hg1⟩)) ?_; (try simp only [seval, go_sem]))
      ((try simp only [seval, go_sem]); repeat ((first | with_reducible refine vsI.id ?_ | with_reducible refine vcI_cond ?_); (try simp only [seval, go_sem])))
      (try with_reducible refine callM.toT ?_); refine callP (cloneBy x.data _ z2 hb (by omega)) rfl rfl ?_; rintro v3 z3 hz3 ⟨A3, rfl, _, hr3⟩; (try simp only [seval, go_sem]); ((try simp only [seval, go_sem]); repeat ((first | with_reducible refine vsI.id ?_ | with_reducible refine vcI_cond ?_); (try simp only [seval, go_sem])))
      (refine ⟨⟨by omega, by omega, hat⟩, ?_⟩; (try simp only [seval, go_sem]))
      refine stoV_row 90 rfl rfl rfl rfl rfl rfl rfl (by rw [hd.length]; simp; show _ ≤ l.length * 3; omega) ?_
      simp only [seval, go_sem]
      ((try simp only [seval, go_sem]); repeat ((first | with_reducible refine vsI.id ?_ | with_reducible refine vcI_cond ?_); (try simp only [seval, go_sem])))
      refine ⟨⟨i + 1, .slice none 0 0, putV ds (i * 3 + 2) [.slice A3 x.data.length x.data.length], z3⟩, ⟨Zc.trans' hz2 hz3, by dsimp only; omega, (hd.mono hz3).data hx (By.mk (Nat.le_refl _) hB1 hr3)⟩, by dsimp only; omega, ?_⟩
      (refine Le.of ?_ ?_ rfl ?_ ⟨rfl, rfl⟩; rotate_left; (repeat (first | exact trivial | refine ⟨rfl, ?_⟩)); (first | exact Nat.le_refl _ | decide | (dsimp only; omega)); (simp (disch := omega) only [LeT, updL, st, reduceCtorEq, true_or, or_true, false_or, and_true, true_and, SV.c.injEq, SC.v.injEq, Value.int.injEq, Value.slice.injEq, wrap_in, Int.natCast_add, Int.natCast_one, Int.natCast_zero, Int.cast_ofNat_Int]) <;> (try (repeat' constructor)) <;> (first | rfl | omega))
    · ((try simp only [seval, go_sem]); repeat ((first | with_reducible refine vsI.id ?_ | with_reducible refine vcI_cond ?_); (try simp only [seval, go_sem])))
      (refine FinV.frzR 90 rfl (fun A4 c4 z4 hv4 hc4 hz4 hr4 => ?_)); dsimp only at hz4; (try subst hv4); simp only [seval, go_sem]
      (((try simp only [seval, go_sem]); repeat ((first | with_reducible refine vsI.id ?_ | with_reducible refine vcI_cond ?_); (try simp only [seval, go_sem]))); with_reducible refine FinV.of ?_; simp only [finE, finS, gt, look, SV.toV, SC.toV, allV, tupV, List.map_cons, List.map_nil, List.length_cons, List.length_nil, Nat.reduceAdd, Nat.reduceEqDiff, reduceCtorEq, if_true, if_false, reduceIte, Nat.succ_ne_self, true_and, List.getElem?_cons_zero, Nat.zero_add, Nat.add_zero])
      refine ⟨_, rfl, ?_⟩
      rcases Nat.eq_zero_or_pos l.length with h0 | h0
      · obtain rfl := List.eq_nil_of_length_eq_zero h0
        exact Sl.nil _ _ _
      · obtain ⟨rfl, _⟩ := hB h0
        injection hv4 with e1 _ e3
        subst e1
        exact ⟨_, _, _, rfl, Nat.le_refl _, hd.mono hz4, hr4⟩
theorem vsI.atR {P : Program} {ic : IC} {K : Exit → St → Prop} {s : St} (k : Nat) {e sz n c : Nat} {A : Option Addr} {cs : List Value} (hk : look k s.L = some (.own (rowA e sz (.slice A n c) n cs))) (h : (0 < n → IsAt A) → vsI P ic K s) : vsI P ic K s := fun C ρ a w hs => by
  obtain ⟨F, hh, hw⟩ := hs.mem
  obtain ⟨F1, F2, ⟨hrow, _⟩, _⟩ := hh.pick hk
  refine h (fun hn => ?_) C ρ a w hs
  rcases hrow.2 with ⟨_, e0⟩ | ⟨g, o, cap, cur, e1, _⟩
  · omega
  · injection e1 with e1 _ _
    exact ⟨g, o, e1⟩
structure CopS where
  i : Nat
  c1 : List Value
  c2 : List Value
  z : Zc
end Go.Proofs.YtpjaidjnamngaaaGreat
