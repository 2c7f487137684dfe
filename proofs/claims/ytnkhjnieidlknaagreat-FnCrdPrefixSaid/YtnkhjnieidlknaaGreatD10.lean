/- Pieces put together; lists copied. · Lists looked through, and copied. · Codes of functions, group Crd. -/
import Derived.Test.YtnkhjnieidlknaaGreatD9
import Derived.Test.YtnkhjnieidlknaaGreatD6
import Derived.Test.YtnkhjnieidlknaaGreatD3
import Derived.Test.YtnkhjnieidlknaaGreatProg
import Derived.Test.YtnkhjnieidlknaaGreatD4
namespace Go.Proofs.YtnkhjnieidlknaaGreat
open Go.RowKit
set_option linter.unusedVariables false
set_option linter.unusedSimpArgs false
set_option maxRecDepth 100000
set_option maxHeartbeats 1000000
theorem bc_append (l m : List Int) : bc l ++ bc m = bc (l ++ m) := by simp [bc]
theorem segPut_all {j : Join} {p : Part} (h0 : p.seg = 0) (h1 : j.len = 0) : segPut j p = (join0, j.got ++ p.data, 2) := by unfold segPut; rw [if_pos ⟨h0, h1⟩]
theorem segPut_start {j : Join} {p : Part} (h0 : p.seg = 1) (h1 : j.len = 0) : segPut j p = (⟨p.len, j.got ++ p.data⟩, [], 1) := by unfold segPut; rw [if_neg (by omega), if_pos ⟨h0, h1⟩]
theorem segPut_more {j : Join} {p : Part} (h0 : p.seg = 2) (h1 : j.len > 0) (h2 : ((j.got ++ p.data).length : Int) < j.len) : segPut j p = (⟨j.len, j.got ++ p.data⟩, [], 1) := by unfold segPut; rw [if_neg (by omega), if_neg (by omega), if_pos ⟨h0, h1, h2⟩]
theorem segPut_end {j : Join} {p : Part} (h0 : p.seg = 3) (h1 : j.len > 0) (h2 : ((j.got ++ p.data).length : Int) = j.len) : segPut j p = (join0, j.got ++ p.data, 2) := by unfold segPut; rw [if_neg (by omega), if_neg (by omega), if_neg (by omega), if_pos ⟨h0, h1, h2⟩]
theorem segPut_bad {j : Join} {p : Part} (h0 : ¬ (p.seg = 0 ∧ j.len = 0)) (h1 : ¬ (p.seg = 1 ∧ j.len = 0)) (h2 : ¬ (p.seg = 2 ∧ j.len > 0 ∧ ((j.got ++ p.data).length : Int) < j.len)) (h3 : ¬ (p.seg = 3 ∧ j.len > 0 ∧ ((j.got ++ p.data).length : Int) = j.len)) : segPut j p = (join0, [], 3) := by unfold segPut; rw [if_neg h0, if_neg h1, if_neg h2, if_neg h3]
theorem put_i (j : Join) (p : Part) (v u : Value) (z : Zc) (hv : By z j.got v) (hu : By z p.data u) (hl : j.got.length ≤ 100000) (hp : p.data.length ≤ 100000) : PSpec Tryz.prog 174 [vJoin j v, vPart p u] z fun r z' => ∃ v' w', r = .tuple #[vJoin (segPut j p).1 v', w', .int .i64 (segPut j p).2.2] ∧ By z' (segPut j p).1.got v' ∧ By z' (segPut j p).2.1 w' := by
  obtain ⟨A, c, rfl, hc, hB, hr⟩ := hv.form
  obtain ⟨A2, c2, rfl, hc2, hB2, hr2⟩ := hu.form
  (refine pspec_enter Tryz.func174 ic174_ok fr174_ok Tryz.ntmps174 ?_; simp only [seval, go_sem, ic174, fr174])
  refine gO ?_
  refine tT ?_; refine callP (cloneBy j.got _ z hv (by omega)) rfl rfl ?_; rintro v1 z1 hz1 ⟨A3, rfl, _, hr3⟩; refine gO ?_
  refine aT ?_; (refine appM_fullR 99 atyB rfl rfl (hr3) (by first | omega | (simp <;> omega)) rfl (hr2.mono hz1) (by first | omega | (simp <;> omega)) (bc_one _) (by omega) (fun A4 c4 z4 hz4 hc4 hr4 => ?_)); dsimp only at hz4; refine gO ?_
  rw [bc_append] at hr4
  have h4 : By z4 (j.got ++ p.data) (.slice A4 (j.got.length + p.data.length) c4) := by
    rw [← List.length_append]; exact By.mk (by rw [List.length_append]; exact hc4) (hB.append hB2) hr4
  refine tT ?_; refine callP (cloneBy (j.got ++ p.data) _ z4 h4 (by rw [List.length_append]; omega)) rfl rfl ?_; rintro v5 z5 hz5 ⟨A5, rfl, hB5, hr5⟩; refine gO ?_
  have h5 : By z5 (j.got ++ p.data) (.slice A5 (j.got ++ p.data).length (j.got ++ p.data).length) := By.mk (Nat.le_refl _) hB5 hr5
  (try simp only [seval, go_sem]); repeat' (first | (with_reducible refine vsI.id ?_; (try simp only [seval, go_sem])) | (with_reducible refine vcI_cond ?_; (try simp only [seval, go_sem])) | (with_reducible refine guardR.split (fun hg => ?_) (fun hg => ?_) <;> (try simp only [hg]) <;> simp only [seval, go_sem]) | (with_reducible refine condI.split (fun hg => ?_) (fun hg => ?_) <;> (try simp only [hg]) <;> (try simp only [seval, go_sem])) | (with_reducible refine callM.toT ?_))
  all_goals (first|refine fN ?_|exact fZ)
  all_goals simp only [beq_iff_eq, decide_eq_true_eq, decide_eq_false_iff_not, beq_eq_false_iff_ne, ne_eq] at *
  all_goals first
    | (exfalso; omega)
    | (rw [segPut_all (by omega) (by omega)]; exact ⟨_, _, rfl, Sl.nil _ _ _, h5⟩)
    | (rw [segPut_start (by omega) (by omega)]; exact ⟨_, _, rfl, h5, Sl.nil _ _ _⟩)
    | (rw [segPut_more (by omega) (by omega) (by omega)]; exact ⟨_, _, rfl, h5, Sl.nil _ _ _⟩)
    | (rw [segPut_end (by omega) (by omega) (by omega)]; exact ⟨_, _, rfl, Sl.nil _ _ _, h5⟩)
    | (rw [segPut_bad (by omega) (by omega) (by omega) (by omega)]; exact ⟨_, _, rfl, Sl.nil _ _ _, Sl.nil _ _ _⟩)
theorem l4bad (z : Zc) : PSpec Tryz.prog 179 [] z fun r z' => ∃ A c, r = .tuple #[.agg #[.int .i64 0, .slice none 0 0], .slice A 0 c, .int .i64 3] := by
  (refine pspec_enter Tryz.func179 ic179_ok fr179_ok Tryz.ntmps179 ?_; simp only [seval, go_sem, ic179, fr179])
  refine gO ?_
  (refine FinV.frz 1 rfl rfl (fun b z1 hz1 hr1 => ?_)); dsimp only at hz1; simp only [seval, go_sem, Go.Proofs.YtnkhjnieidlknaaGreat.frz, subV, subC, subE, subL]
  (first|refine fN ?_|exact fZ)
  exact ⟨_, _, rfl⟩
theorem put_s (j : Join) (p : Part) (v u : Value) (z : Zc) (hv : By z j.got v) (hu : By z p.data u) (hl : j.got.length ≤ 100000) (hp : p.data.length ≤ 100000) (hj : 0 ≤ j.len) (hs : 0 ≤ p.seg ∧ p.seg ≤ 3) : PSpec Tryz.prog 173 [vJoin j v, vPart p u] z fun r z' => ∃ v' w', r = .tuple #[vJoin (segPut j p).1 v', w', .int .i64 (segPut j p).2.2] ∧ By z' (segPut j p).1.got v' ∧ By z' (segPut j p).2.1 w' := by
  obtain ⟨A, c, rfl, hc, hB, hr⟩ := hv.form
  obtain ⟨A2, c2, rfl, hc2, hB2, hr2⟩ := hu.form
  (refine pspec_enter Tryz.func173 ic173_ok fr173_ok Tryz.ntmps173 ?_; simp only [seval, go_sem, ic173, fr173])
  refine gO ?_
  have hN : (j.got ++ p.data).length = j.got.length + p.data.length := List.length_append
  by_cases hg0 : j.got.length = 0
  · have hgn : j.got = [] := List.eq_nil_of_length_eq_zero hg0
    simp only [hg0]
    refine aT ?_; (refine appM_zero atyB (by first | exact .inl ⟨_, _, _, Nat.le_refl _, rfl⟩ | exact .inr ⟨_, _, rfl⟩) rfl ?_); refine gO ?_
    by_cases hp0 : p.data.length = 0
    · have hpn : p.data = [] := List.eq_nil_of_length_eq_zero hp0
      simp only [hp0]
      refine aT ?_; (refine appM_zero atyB (by first | exact .inl ⟨_, _, _, Nat.le_refl _, rfl⟩ | exact .inr ⟨_, _, rfl⟩) rfl ?_); simp only [seval, go_sem]
      (refine vsI.frz 3 rfl rfl rfl (fun b4 z4 hz4 hr4 => ?_)); simp only [seval, go_sem, Go.Proofs.YtnkhjnieidlknaaGreat.frz, subV, subC, subE, subL]; refine gO ?_
      have h5 : By z4 (j.got ++ p.data) (.slice (some ⟨b4, 0, none⟩) 0 0) := by rw [hgn, hpn]; exact Sl.nil _ _ _
      (try simp only [seval, go_sem]); repeat' (first | (with_reducible refine vsI.id ?_; (try simp only [seval, go_sem])) | (with_reducible refine vcI_cond ?_; (try simp only [seval, go_sem])) | (with_reducible refine guardR.split (fun hg => ?_) (fun hg => ?_) <;> (try simp only [hg]) <;> simp only [seval, go_sem]) | (with_reducible refine condI.split (fun hg => ?_) (fun hg => ?_) <;> (try simp only [hg]) <;> (try simp only [seval, go_sem])) | (with_reducible refine callM.toT ?_))
      all_goals (try (refine tT ?_; refine callP (l4bad _) rfl rfl ?_; rintro r z1 hz1 ⟨w1, w2, rfl⟩; replace h5 := h5.mono hz1)); refine gO ?_
      all_goals (try ((refine FinV.frz 4 rfl rfl (fun b5 z5 hz5 hr5 => ?_)); dsimp only at hz5; simp only [seval, go_sem, Go.Proofs.YtnkhjnieidlknaaGreat.frz, subV, subC, subE, subL]; replace h5 := h5.mono hz5))
      all_goals (first|refine fN ?_|exact fZ)
      all_goals simp only [beq_iff_eq, decide_eq_true_eq, decide_eq_false_iff_not, beq_eq_false_iff_ne, bne_iff_ne, bne_eq_false_iff_eq, ne_eq, Bool.not_eq_true', Bool.not_eq_false'] at *
      all_goals first
        | (exfalso; omega)
        | (rw [segPut_all (by omega) (by omega)]; exact ⟨_, _, rfl, Sl.nil _ _ _, h5⟩)
        | (rw [segPut_start (by omega) (by omega)]; exact ⟨_, _, rfl, h5, Sl.nil _ _ _⟩)
        | (rw [segPut_more (by omega) (by omega) (by omega)]; exact ⟨_, _, rfl, h5, Sl.nil _ _ _⟩)
        | (rw [segPut_end (by omega) (by omega) (by omega)]; exact ⟨_, _, rfl, Sl.nil _ _ _, h5⟩)
        | (rw [segPut_bad (by omega) (by omega) (by omega) (by omega)]; exact ⟨_, _, rfl, Sl.nil _ _ _, Sl.nil _ _ _⟩)
    · refine aT ?_; (refine appM_emptyO 90 atyB rfl (by first | exact .inl ⟨_, rfl⟩ | exact .inr ⟨_, _, rfl⟩) rfl (hr2) (by first | omega | (simp <;> omega)) (bc_one _) (by omega) (by omega) (fun A3 c3 hc3 => ?_)); simp only [seval, go_sem]
      (refine vsI.frzR 90 rfl rfl (fun A4 c4 z4 hv4 hc4 hz4 hr4 => ?_)); (first | subst hv4 | (injection hv4 with hv_1 hv_2 hv_3; subst hv_1; subst hv_3)); refine gO ?_
      have h5 : By z4 (j.got ++ p.data) (.slice A3 p.data.length c3) := by rw [hgn]; exact By.mk hc4 hB2 hr4
      (try simp only [seval, go_sem]); repeat' (first | (with_reducible refine vsI.id ?_; (try simp only [seval, go_sem])) | (with_reducible refine vcI_cond ?_; (try simp only [seval, go_sem])) | (with_reducible refine guardR.split (fun hg => ?_) (fun hg => ?_) <;> (try simp only [hg]) <;> simp only [seval, go_sem]) | (with_reducible refine condI.split (fun hg => ?_) (fun hg => ?_) <;> (try simp only [hg]) <;> (try simp only [seval, go_sem])) | (with_reducible refine callM.toT ?_))
      all_goals (try (refine tT ?_; refine callP (l4bad _) rfl rfl ?_; rintro r z1 hz1 ⟨w1, w2, rfl⟩; replace h5 := h5.mono hz1)); refine gO ?_
      all_goals (try ((refine FinV.frz 4 rfl rfl (fun b5 z5 hz5 hr5 => ?_)); dsimp only at hz5; simp only [seval, go_sem, Go.Proofs.YtnkhjnieidlknaaGreat.frz, subV, subC, subE, subL]; replace h5 := h5.mono hz5))
      all_goals (first|refine fN ?_|exact fZ)
      all_goals simp only [beq_iff_eq, decide_eq_true_eq, decide_eq_false_iff_not, beq_eq_false_iff_ne, bne_iff_ne, bne_eq_false_iff_eq, ne_eq, Bool.not_eq_true', Bool.not_eq_false'] at *
      all_goals first
        | (exfalso; omega)
        | (rw [segPut_all (by omega) (by omega)]; exact ⟨_, _, rfl, Sl.nil _ _ _, h5⟩)
        | (rw [segPut_start (by omega) (by omega)]; exact ⟨_, _, rfl, h5, Sl.nil _ _ _⟩)
        | (rw [segPut_more (by omega) (by omega) (by omega)]; exact ⟨_, _, rfl, h5, Sl.nil _ _ _⟩)
        | (rw [segPut_end (by omega) (by omega) (by omega)]; exact ⟨_, _, rfl, Sl.nil _ _ _, h5⟩)
        | (rw [segPut_bad (by omega) (by omega) (by omega) (by omega)]; exact ⟨_, _, rfl, Sl.nil _ _ _, Sl.nil _ _ _⟩)
  · refine aT ?_; (refine appM_emptyO 90 atyB rfl (by first | exact .inl ⟨_, rfl⟩ | exact .inr ⟨_, _, rfl⟩) rfl (hr) (by first | omega | (simp <;> omega)) (bc_one _) (by omega) (by omega) (fun A3 c3 hc3 => ?_)); refine gO ?_
    refine aT ?_; (refine appM_row 90 atyB rfl rfl rfl rfl hr2 (by first | omega | simp) (bc_one _) (by omega) (fun v2 => ?_)); simp only [seval, go_sem]
    (refine vsI.frzR 90 rfl rfl (fun A4 c4 z4 hv4 hc4 hz4 hr4 => ?_)); (first | subst hv4 | (injection hv4 with hv_1 hv_2 hv_3; subst hv_1; subst hv_3)); refine gO ?_
    have h5 : By z4 (j.got ++ p.data) (.slice A4 (j.got.length + p.data.length) c4) := by rw [← List.length_append]; exact By.mk (by rw [List.length_append]; omega) (hB.append hB2) (by rw [← bc_append]; exact hr4)
    (try simp only [seval, go_sem]); repeat' (first | (with_reducible refine vsI.id ?_; (try simp only [seval, go_sem])) | (with_reducible refine vcI_cond ?_; (try simp only [seval, go_sem])) | (with_reducible refine guardR.split (fun hg => ?_) (fun hg => ?_) <;> (try simp only [hg]) <;> simp only [seval, go_sem]) | (with_reducible refine condI.split (fun hg => ?_) (fun hg => ?_) <;> (try simp only [hg]) <;> (try simp only [seval, go_sem])) | (with_reducible refine callM.toT ?_))
    all_goals (try (refine tT ?_; refine callP (l4bad _) rfl rfl ?_; rintro r z1 hz1 ⟨w1, w2, rfl⟩; replace h5 := h5.mono hz1)); refine gO ?_
    all_goals (try ((refine FinV.frz 4 rfl rfl (fun b5 z5 hz5 hr5 => ?_)); dsimp only at hz5; simp only [seval, go_sem, Go.Proofs.YtnkhjnieidlknaaGreat.frz, subV, subC, subE, subL]; replace h5 := h5.mono hz5))
    all_goals (first|refine fN ?_|exact fZ)
    all_goals simp only [beq_iff_eq, decide_eq_true_eq, decide_eq_false_iff_not, beq_eq_false_iff_ne, bne_iff_ne, bne_eq_false_iff_eq, ne_eq, Bool.not_eq_true', Bool.not_eq_false'] at *
    all_goals first
      | (exfalso; omega)
      | (rw [segPut_all (by omega) (by omega)]; exact ⟨_, _, rfl, Sl.nil _ _ _, h5⟩)
      | (rw [segPut_start (by omega) (by omega)]; exact ⟨_, _, rfl, h5, Sl.nil _ _ _⟩)
      | (rw [segPut_more (by omega) (by omega) (by omega)]; exact ⟨_, _, rfl, h5, Sl.nil _ _ _⟩)
      | (rw [segPut_end (by omega) (by omega) (by omega)]; exact ⟨_, _, rfl, Sl.nil _ _ _, h5⟩)
      | (rw [segPut_bad (by omega) (by omega) (by omega) (by omega)]; exact ⟨_, _, rfl, Sl.nil _ _ _, Sl.nil _ _ _⟩)
theorem all_take {α : Type} {p : α → Bool} {l : List α} {i : Nat} {x : α} (hx : l[i]? = some x) (ht : (l.take i).all p = true) (hp : p x = true) : (l.take (i + 1)).all p = true := by
  rw [List.take_add_one, List.all_append, ht, hx]; simp [hp]
theorem all_not {α : Type} {p : α → Bool} {l : List α} {i : Nat} {x : α} (hx : l[i]? = some x) (hp : p x = false) : l.all p = false := List.all_eq_false.2 ⟨x, List.mem_of_getElem? hx, by simp [hp]⟩
def mostB (most : Int) (p : Part) : Bool := partOk p && decide ((p.data.length : Int) ≤ most)
theorem putV_app {c r ds : List Value} {n o : Nat} (h : c.length = n) : putV (c ++ r) (n + o) ds = c ++ putV r o ds := by
  subst h
  simp [putV, List.take_append, List.drop_append, Nat.add_assoc, List.take_of_length_le, List.drop_of_length_le]
theorem putV_app' {c r ds : List Value} {o : Nat} (h : o + ds.length ≤ c.length) : putV (c ++ r) o ds = putV c o ds ++ r := by
  unfold putV
  rw [List.take_append_of_le_length (by omega), List.drop_append_of_le_length h]
  simp
theorem Els.put {α : Type} {d : Rep α} {z : Zc} {y : α} {ds : List Value} {o : Nat} : ∀ {xs : List α} {cs : List Value} {k : Nat}, Els d z xs cs → ∀ {x : α}, xs[k]? = some x → (∀ c, d.K z x c → d.K z y (putV c o ds)) → o + ds.length ≤ d.sz → Els d z (xs.set k y) (putV cs (k * d.sz + o) ds)
  | [], cs, k, h, x, hk, hy, ho => by simp at hk
  | x0 :: xs, cs, 0, h, x, hk, hy, ho => by
    obtain ⟨c, r, rfl, h1, h2⟩ := h
    simp only [List.getElem?_cons_zero, Option.some.injEq] at hk
    subst hk
    rw [Nat.zero_mul, Nat.zero_add, putV_app' (by rw [d.len h1]; exact ho)]
    exact ⟨_, r, rfl, hy c h1, h2⟩
  | x0 :: xs, cs, k + 1, h, x, hk, hy, ho => by
    obtain ⟨c, r, rfl, h1, h2⟩ := h
    simp only [List.getElem?_cons_succ] at hk
    rw [Nat.succ_mul, show k * d.sz + d.sz + o = d.sz + (k * d.sz + o) by omega, putV_app (d.len h1)]
    exact ⟨c, _, rfl, h1, h2.put hk hy ho⟩
theorem set_same {α : Type} {l : List α} {k : Nat} {x : α} (h : l[k]? = some x) : l.set k x = l := by
  obtain ⟨hk, e⟩ := List.getElem?_eq_some_iff.1 h
  rw [← e]; exact List.set_getElem_self hk
theorem Els.data {z : Zc} {l : List Part} {cs : List Value} {k : Nat} {p : Part} {v : Value} (h : Els pRep z l cs) (hk : l[k]? = some p) (hv : By z p.data v) : Els pRep z l (putV cs (k * 3 + 2) [v]) := by
  have := h.put (k := k) (y := p) (ds := [v]) (o := 2) hk (fun c hc => by obtain ⟨u, rfl, _⟩ := hc; exact ⟨v, rfl, hv⟩) (Nat.le_refl 3)
  rwa [set_same hk] at this
theorem vsI.formR {P : Program} {ic : IC} {K : Exit → St → Prop} {s : St} (k : Nat) {e sz n : Nat} {v : Value} {cs : List Value} (hk : look k s.L = some (.own (rowA e sz v n cs))) (h : ∀ A c, v = .slice A n c → n ≤ c → vsI P ic K s) : vsI P ic K s := fun C ρ a w hs => by
  obtain ⟨F, hh, hw⟩ := hs.mem
  obtain ⟨F1, F2, ⟨hrow, _⟩, _⟩ := hh.pick hk
  obtain ⟨A', c', e1, e2, _⟩ := hrow.rd
  exact h A' c' e1 e2 C ρ a w hs
theorem FinV.atR {fr : List FR} {s : St} {R : Value → Zc → Asrt → Prop} (k : Nat) {e sz n c : Nat} {A : Option Addr} {cs : List Value} (hk : look k s.L = some (.own (rowA e sz (.slice A n c) n cs))) (hn : 0 < n) (h : IsAt A → FinV fr s R) : FinV fr s R := fun C ρ a w hs => by
  obtain ⟨F, hh, hw⟩ := hs.mem
  obtain ⟨F1, F2, ⟨hrow, _⟩, _⟩ := hh.pick hk
  rcases hrow.2 with ⟨_, e0⟩ | ⟨g, o, cap, cur, e1, _⟩
  · omega
  · injection e1 with e1 _ _
    exact h ⟨g, o, e1⟩ C ρ a w hs
theorem FinV.formR {fr : List FR} {s : St} {R : Value → Zc → Asrt → Prop} (k : Nat) {e sz n : Nat} {v : Value} {cs : List Value} (hk : look k s.L = some (.own (rowA e sz v n cs))) (h : ∀ A c, v = .slice A n c → n ≤ c → FinV fr s R) : FinV fr s R := fun C ρ a w hs => by
  obtain ⟨F, hh, hw⟩ := hs.mem
  obtain ⟨F1, F2, ⟨hrow, _⟩, _⟩ := hh.pick hk
  obtain ⟨A', c', e1, e2, _⟩ := hrow.rd
  exact h A' c' e1 e2 C ρ a w hs
theorem l6parts_s (l : List Part) (v : Value) (most : Int) (z : Zc) (h : Sl pRep z l v) (hl : l.length ≤ 1000000000) (hp : ∀ p ∈ l, p.data.length ≤ 1000000000) :
    PSpec Tryz.prog 168 [v, .int .i64 most] z fun u z' => u = .bool (l.all (mostB most)) ∧ z = z' := by
  obtain ⟨A, k, cs, rfl, hk, he, hr⟩ := h
  (refine pspec_enter Tryz.func168 ic168_ok fr168_ok Tryz.ntmps168 ?_; simp only [seval, go_sem, ic168, fr168])
  refine gO ?_
  refine loop_upd (ι := Nat) (n := 0) (fun i => i ≤ l.length ∧ (l.take i).all (mostB most) = true) (fun i => [(5, .c (.v (.int .i64 i)))]) (fun _ => []) (fun _ => z) (fun i => l.length - i) 0 (by simp) (by (simp only [wrI, wrR, anyL, st, List.append_nil, List.nil_append, List.cons_append]); exact rfl) ?_ ?_
  · exact lE
  · rintro i ⟨hi, ht⟩
    refine gO ?_
    (with_reducible refine condI.split (fun hg => ?_) (fun hg => ?_) <;> (try simp only [hg]) <;> (try simp only [seval, go_sem]))
    · refine gO ?_
      have hi' : i < l.length := by simp at hg; omega
      obtain ⟨x, hx⟩ : ∃ x, l[i]? = some x := ⟨_, List.getElem?_eq_getElem hi'⟩
      obtain ⟨c1, ⟨v, rfl, hb⟩, hr1⟩ := he.at hr hx
      obtain ⟨A1, c1, rfl, hc1, hB1, hrb⟩ := hb.form
      (refine ⟨⟨by omega, by omega, he.isAt hr (by decide) hi'⟩, ?_⟩; (try simp only [seval, go_sem]))
      (refine ldF.agg _ rfl (by first | exact .inl hr1 | exact hr1) ?_; (try simp only [seval, go_sem]))
      refine tT ?_; refine callP (partok_s x A1 _ _ (hp x (List.mem_of_getElem? hx))) rfl rfl ?_; rintro _ _ - ⟨rfl, rfl⟩; refine gO ?_
      (with_reducible refine guardR.split (fun hg => ?_) (fun hg => ?_) <;> (try simp only [hg]) <;> simp only [seval, go_sem])
      · refine gO ?_
        (first|refine fN ?_|exact fZ)
        have : l.all (mostB most) = false := all_not hx (by simp only [mostB]; simp at hg; simp [hg])
        simp [this]
      · have hok : partOk x = true := by simpa using hg
        (refine ⟨⟨by omega, by omega, he.isAt hr (by decide) hi'⟩, ?_⟩; (try simp only [seval, go_sem]))
        (refine ldF.one _ (by first | exact .inl (hr1.cell 2 rfl) | exact (hr1.cell 2 rfl)) ?_; (try simp only [seval, go_sem]))
        refine gO ?_
        (with_reducible refine condI.split (fun hg => ?_) (fun hg => ?_) <;> (try simp only [hg]) <;> (try simp only [seval, go_sem]))
        · (first|refine fN ?_|exact fZ)
          have : l.all (mostB most) = false := all_not hx (by simp only [mostB]; simp at hg; simp; omega)
          simp [this]
        · refine gO ?_
          refine ⟨i + 1, ⟨by omega, all_take (p := mostB most) hx ht (by simp only [mostB, hok]; simp at hg; simp; omega)⟩, by omega, ?_⟩
          exact lE
    · refine gO ?_
      (first|refine fN ?_|exact fZ)
      have : i = l.length := by simp at hg; omega
      subst this
      simpa using ht.symm
structure LstS where
  i : Nat
  v : Value
  cs : List Value
  z : Zc
theorem atyS : AppTy Tryz.prog 47 22 1 := AppTy.of (by kernel_rfl)
theorem l6list_s (l : List Part) (v : Value) (z : Zc) (h : Sl pRep z l v) (hl : l.length ≤ 1000000) (hp : ∀ p ∈ l, p.data.length ≤ 1000000000) :
    Spec Tryz.prog 128 [v] z emp fun u z' A' => ∃ A c cs, u = .slice A l.length c ∧ A' = rowA 63 3 (.slice A l.length c) l.length cs ∧ l.length ≤ c ∧ Els pRep z' l cs := by
  obtain ⟨A, k, cs, rfl, hk, he, hr⟩ := h
  (refine spec_enter0 Tryz.func128 ic128_ok fr128_ok Tryz.ntmps128 ?_; simp only [seval, go_sem, ic128, fr128])
  refine gO ?_
  refine loopV.toRow 90 0 rfl rfl (m := 0) (sz := 3) rfl (by omega) (fun b0 => ?_)
  simp only [seval, go_sem, rowSt, subV, subC, subE, subL]
  refine loop_upd (ι := LstS) (n := 1) (fun i => z ≤ i.z ∧ i.i ≤ l.length ∧ Els pRep i.z (l.take i.i) i.cs) (fun i => [(4, .c (.v (.int .i64 i.i))), (3, .c (.v i.v))]) (fun i => [(90, .own (rowA 63 3 i.v i.i i.cs))]) (fun i => i.z) (fun i => l.length - i.i) ⟨0, .slice (some ⟨b0, 0, none⟩) 0 0, [], z⟩ ⟨Zc.rfl' _, by simp, rfl⟩ (by (simp only [wrI, wrR, anyL, st, List.append_nil, List.nil_append, List.cons_append]); exact rfl) ?_ ?_
  · exact lE
  · rintro ⟨i, v, ds, z1⟩ ⟨hz1, hi, hd⟩
    dsimp only at *
    refine gO ?_
    (with_reducible refine condI.split (fun hg => ?_) (fun hg => ?_) <;> (try simp only [hg]) <;> (try simp only [seval, go_sem]))
    · refine gO ?_
      have hi' : i < l.length := by simp at hg; omega
      obtain ⟨x, hx⟩ : ∃ x, l[i]? = some x := ⟨_, List.getElem?_eq_getElem hi'⟩
      obtain ⟨c1, ⟨v, rfl, hb⟩, hr1⟩ := (he.mono hz1).at (hr.mono hz1) hx
      obtain ⟨A1, c1, rfl, hc1, hB1, hrb⟩ := hb.form
      have hat : IsAt A := he.isAt hr (by decide) hi'
      (refine ⟨⟨by omega, by omega, hat⟩, ?_⟩; (try simp only [seval, go_sem]))
      (refine ldF.one _ (by first | exact .inl (hr1.cell 0 rfl) | exact (hr1.cell 0 rfl)) ?_; (try simp only [seval, go_sem]))
      (refine ⟨⟨by omega, by omega, hat⟩, ?_⟩; (try simp only [seval, go_sem]))
      (refine ldF.one _ (by first | exact .inl (hr1.cell 1 rfl) | exact (hr1.cell 1 rfl)) ?_; (try simp only [seval, go_sem]))
      (refine ⟨⟨by omega, by omega, hat⟩, ?_⟩; (try simp only [seval, go_sem]))
      (refine ldF.one _ (by first | exact .inl (hr1.cell 2 rfl) | exact (hr1.cell 2 rfl)) ?_; (try simp only [seval, go_sem]))
      have hxp := hp x (List.mem_of_getElem? hx)
      refine aT ?_; (refine appM_empty 99 atyB rfl (by first | exact .inl ⟨_, rfl⟩ | exact .inr ⟨_, _, rfl⟩) rfl hrb (by first | omega | (simp <;> omega)) (bc_one _) (by omega) (fun A2 c2 z2 hz2 hc2 hr2 => ?_)); dsimp only at hz2; refine gO ?_
      refine aT ?_; (refine appM_new 90 atyP rfl rfl rfl rfl rfl rfl rfl (by simp [Value.oneCell']) (by omega) (fun v3 => ?_)); refine gO ?_
      refine ⟨⟨i + 1, v3, ds ++ [.int .i64 x.seg, .int .i64 x.len, .slice A2 x.data.length c2], z2⟩, ⟨Zc.trans' hz1 hz2, by dsimp only; omega, ?_⟩, by dsimp only; omega, ?_⟩
      rotate_left
      · exact lE
      · dsimp only
        rw [List.take_add_one, hx]
        exact (hd.mono hz2).append (Els.single ⟨_, rfl, By.mk hc2 hB1 hr2⟩)
    · refine gO ?_
      refine FinV.formR 90 rfl fun A3 c3 hv3 hc3 => ?_
      subst hv3
      (((try simp only [seval, go_sem]);repeat((with_reducible first|refine vJ ?_|refine vK ?_);try simp only [seval, go_sem])); refine FinV.own 90 rfl ?_; simp only [finE, finS, gt, look, SV.toV, SC.toV, allV, tupV, zq1, zq2, zq3, zq4, Nat.reduceAdd, Nat.reduceEqDiff, reduceCtorEq, if_true, if_false, reduceIte, Nat.succ_ne_self, true_and, zq5, zq7, zq8])
      have : i = l.length := by simp at hg; omega
      subst this
      exact ⟨_, _, _, rfl, rfl, hc3, by simpa using hd⟩
theorem l7sdus_s (l : List (List Int)) (v : Value) (z : Zc) (h : Sl sduRep z l v) (hl : l.length ≤ 1000000) (hp : ∀ p ∈ l, p.length ≤ 1000000000) :
    Spec Tryz.prog 94 [v] z emp fun u z' A' => ∃ A c cs, u = .slice A l.length c ∧ A' = rowA 22 1 (.slice A l.length c) l.length cs ∧ l.length ≤ c ∧ Els sduRep z' l cs := by
  obtain ⟨A, k, cs, rfl, hk, he, hr⟩ := h
  (refine spec_enter0 Tryz.func94 ic94_ok fr94_ok Tryz.ntmps94 ?_; simp only [seval, go_sem, ic94, fr94])
  refine gO ?_
  refine loopV.toRow 90 0 rfl rfl (m := 0) (sz := 1) rfl (by omega) (fun b0 => ?_)
  simp only [seval, go_sem, rowSt, subV, subC, subE, subL]
  refine loop_upd (ι := LstS) (n := 1) (fun i => z ≤ i.z ∧ i.i ≤ l.length ∧ Els sduRep i.z (l.take i.i) i.cs) (fun i => [(4, .c (.v (.int .i64 i.i))), (3, .c (.v i.v))]) (fun i => [(90, .own (rowA 22 1 i.v i.i i.cs))]) (fun i => i.z) (fun i => l.length - i.i) ⟨0, .slice (some ⟨b0, 0, none⟩) 0 0, [], z⟩ ⟨Zc.rfl' _, by simp, rfl⟩ (by (simp only [wrI, wrR, anyL, st, List.append_nil, List.nil_append, List.cons_append]); exact rfl) ?_ ?_
  · exact lE
  · rintro ⟨i, v, ds, z1⟩ ⟨hz1, hi, hd⟩
    dsimp only at *
    refine gO ?_
    (with_reducible refine condI.split (fun hg => ?_) (fun hg => ?_) <;> (try simp only [hg]) <;> (try simp only [seval, go_sem]))
    · refine gO ?_
      have hi' : i < l.length := by simp at hg; omega
      obtain ⟨x, hx⟩ : ∃ x, l[i]? = some x := ⟨_, List.getElem?_eq_getElem hi'⟩
      obtain ⟨c1, ⟨v, rfl, hb⟩, hr1⟩ := (he.mono hz1).at (hr.mono hz1) hx
      obtain ⟨A1, c1, rfl, hc1, hB1, hrb⟩ := By.form hb
      have hat : IsAt A := he.isAt hr (by decide) hi'
      (refine ⟨⟨by omega, by omega, hat⟩, ?_⟩; (try simp only [seval, go_sem]))
      (refine ldF.one _ (by first | exact .inl hr1 | exact hr1) ?_; (try simp only [seval, go_sem]))
      have hxp := hp x (List.mem_of_getElem? hx)
      refine aT ?_; (refine appM_empty 99 atyB rfl (by first | exact .inl ⟨_, rfl⟩ | exact .inr ⟨_, _, rfl⟩) rfl hrb (by first | omega | (simp <;> omega)) (bc_one _) (by omega) (fun A2 c2 z2 hz2 hc2 hr2 => ?_)); dsimp only at hz2; refine gO ?_
      refine aT ?_; (refine appM_new 90 atyS rfl rfl rfl rfl rfl rfl rfl (by simp [Value.oneCell']) (by omega) (fun v3 => ?_)); refine gO ?_
      refine ⟨⟨i + 1, v3, ds ++ [.slice A2 x.length c2], z2⟩, ⟨Zc.trans' hz1 hz2, by dsimp only; omega, ?_⟩, by dsimp only; omega, ?_⟩
      rotate_left
      · exact lE
      · dsimp only
        rw [List.take_add_one, hx]
        exact (hd.mono hz2).append (Els.single ⟨_, rfl, By.mk hc2 hB1 hr2⟩)
    · refine gO ?_
      refine FinV.formR 90 rfl fun A3 c3 hv3 hc3 => ?_
      subst hv3
      (((try simp only [seval, go_sem]);repeat((with_reducible first|refine vJ ?_|refine vK ?_);try simp only [seval, go_sem])); refine FinV.own 90 rfl ?_; simp only [finE, finS, gt, look, SV.toV, SC.toV, allV, tupV, zq1, zq2, zq3, zq4, Nat.reduceAdd, Nat.reduceEqDiff, reduceCtorEq, if_true, if_false, reduceIte, Nat.succ_ne_self, true_and, zq5, zq7, zq8])
      have : i = l.length := by simp at hg; omega
      subst this
      exact ⟨_, _, _, rfl, rfl, hc3, by simpa using hd⟩
theorem scloneO (A : Option Addr) (n c : Nat) (cs : List Value) (z : Zc) (hr : RdAt z A 0 cs) (hl : cs.length = n * 3) (h1 : ∀ u ∈ cs, u.oneCell' = true) (hb : n ≤ 1000000000) :
    Spec Tryz.prog 166 [.slice A n c] z emp fun v z' A' => ∃ A2 c2 B, v = .slice A2 n c2 ∧ n ≤ c2 ∧ A' = rowA 63 3 (.slice B n (if n = 0 then 0 else c2)) n cs ∧ (0 < n → B = A2 ∧ IsAt A2) := by
  (refine spec_enter0 Tryz.func166 ic166_ok fr166_ok Tryz.ntmps166 ?_; simp only [seval, go_sem, ic166, fr166])
  by_cases hn : n = 0
  · subst hn
    have hcs : cs = [] := List.eq_nil_of_length_eq_zero (by omega)
    subst hcs
    refine gO ?_
    (with_reducible refine condI.split (fun hg => ?_) (fun hg => ?_) <;> (try simp only [hg]) <;> (try simp only [seval, go_sem]))
    · refine gO ?_
      refine FinV.tf (Tf.nilRow 90 63 3 rfl) ?_
      dsimp only
      (((try simp only [seval, go_sem]);repeat((with_reducible first|refine vJ ?_|refine vK ?_);try simp only [seval, go_sem])); refine FinV.own 90 rfl ?_; simp only [finE, finS, gt, look, SV.toV, SC.toV, allV, tupV, zq1, zq2, zq3, zq4, Nat.reduceAdd, Nat.reduceEqDiff, reduceCtorEq, if_true, if_false, reduceIte, Nat.succ_ne_self, true_and, zq5, zq7, zq8])
      first | exact ⟨_, _, _, rfl, rfl⟩ | exact ⟨_, _, _, rfl, by omega, rfl⟩ | exact ⟨_, _, _, rfl, rfl, by omega⟩
    · refine gO ?_
      refine aT ?_; (refine appM_zero atyP (by first | exact .inl ⟨_, _, _, Nat.le_refl _, rfl⟩ | exact .inr ⟨_, _, rfl⟩) rfl ?_); refine gO ?_
      (refine FinV.frz 0 rfl rfl (fun b z1 hz1 hr1 => ?_)); dsimp only at hz1; simp only [seval, go_sem, Go.Proofs.YtnkhjnieidlknaaGreat.frz, subV, subC, subE, subL]
      refine FinV.tf (Tf.nilRow 90 63 3 rfl) ?_
      dsimp only
      (((try simp only [seval, go_sem]);repeat((with_reducible first|refine vJ ?_|refine vK ?_);try simp only [seval, go_sem])); refine FinV.own 90 rfl ?_; simp only [finE, finS, gt, look, SV.toV, SC.toV, allV, tupV, zq1, zq2, zq3, zq4, Nat.reduceAdd, Nat.reduceEqDiff, reduceCtorEq, if_true, if_false, reduceIte, Nat.succ_ne_self, true_and, zq5, zq7, zq8])
      first | exact ⟨_, _, _, rfl, rfl⟩ | exact ⟨_, _, _, rfl, by omega, rfl⟩ | exact ⟨_, _, _, rfl, rfl, by omega⟩
  · refine gO ?_
    (with_reducible refine condI.split (fun hg => ?_) (fun hg => ?_) <;> (try simp only [hg]) <;> (try simp only [seval, go_sem]))
    · exfalso
      cases A with
      | none => obtain ⟨b, o, e, _⟩ := hr (List.ne_nil_of_length_pos (by omega)); cases e
      | some a => simp at hg
    · refine gO ?_
      refine aT ?_; (refine appM_emptyO 90 atyP rfl (by first | exact .inl ⟨_, rfl⟩ | exact .inr ⟨_, _, rfl⟩) rfl (hr) (by first | omega | (simp <;> omega)) (h1) (by omega) (by omega) (fun A2 c2 hc2 => ?_)); refine gO ?_
      refine FinV.atR 90 rfl (by omega) (fun hat => ?_)
      (((try simp only [seval, go_sem]);repeat((with_reducible first|refine vJ ?_|refine vK ?_);try simp only [seval, go_sem])); refine FinV.own 90 rfl ?_; simp only [finE, finS, gt, look, SV.toV, SC.toV, allV, tupV, zq1, zq2, zq3, zq4, Nat.reduceAdd, Nat.reduceEqDiff, reduceCtorEq, if_true, if_false, reduceIte, Nat.succ_ne_self, true_and, zq5, zq7, zq8])
      exact ⟨A2, c2, A2, rfl, hc2, by rw [if_neg hn], fun _ => ⟨rfl, hat⟩⟩
theorem cloneO (A : Option Addr) (n c : Nat) (cs : List Value) (z : Zc) (hr : RdAt z A 0 cs) (hl : cs.length = n * 3) (h1 : ∀ u ∈ cs, u.oneCell' = true) (hb : n ≤ 1000000000) :
    Spec Tryz.prog 145 [.slice A n c] z emp fun v z' A' => ∃ A2 B, v = .slice A2 n n ∧ A' = rowA 63 3 (.slice B n n) n cs ∧ (0 < n → B = A2 ∧ IsAt A2) := by
  (refine spec_enter0 Tryz.func145 ic145_ok fr145_ok Tryz.ntmps145 ?_; simp only [seval, go_sem, ic145, fr145])
  refine gO ?_
  refine tT ?_; refine callO 90 (scloneO A n c cs z hr hl h1 hb) rfl rfl rfl ?_; rintro v z1 A' hz1 ⟨A2, c2, B, rfl, hc2, rfl, hB⟩; refine gO ?_
  refine tT ?_; refine callP (sclipP A2 n c2 z1 hc2 hb) rfl rfl ?_; rintro v z2 hz2 rfl; refine gO ?_
  refine FinV.tf (Tf.cut 90 rfl rfl 0 n n (by omega) (by omega) (by omega) (by split <;> omega) (.inl rfl)) ?_
  (((try simp only [seval, go_sem]);repeat((with_reducible first|refine vJ ?_|refine vK ?_);try simp only [seval, go_sem])); refine FinV.own 90 rfl ?_; simp only [finE, finS, gt, look, SV.toV, SC.toV, allV, tupV, zq1, zq2, zq3, zq4, Nat.reduceAdd, Nat.reduceEqDiff, reduceCtorEq, if_true, if_false, reduceIte, Nat.succ_ne_self, true_and, zq5, zq7, zq8])
  exact ⟨_, _, rfl, by rw [List.take_of_length_le (by omega)], hB⟩
theorem copyparts_i (l : List Part) (v : Value) (z : Zc) (h : Sl pRep z l v) (hl : l.length ≤ 1000000) (hp : ∀ p ∈ l, p.data.length ≤ 1000000000) :
    PSpec Tryz.prog 106 [v] z fun u z' => ∃ A, u = .slice A l.length l.length ∧ Sl pRep z' l u := by
  obtain ⟨A, k, cs, rfl, hk, he, hr⟩ := h
  (refine pspec_enter Tryz.func106 ic106_ok fr106_ok Tryz.ntmps106 ?_; simp only [seval, go_sem, ic106, fr106])
  refine gO ?_
  refine tT ?_; refine callO 90 (cloneO A l.length k cs z hr he.length he.one (by omega)) rfl rfl rfl ?_; rintro v z1 A' hz1 ⟨A2, B, rfl, rfl, hB⟩; refine gO ?_
  refine loop_upd (ι := LstS) (n := 0) (fun i => z1 ≤ i.z ∧ i.i ≤ l.length ∧ Els pRep i.z l i.cs) (fun i => [(10, .c (.v (.int .i64 i.i)))]) (fun i => [(90, .own (rowA 63 3 (.slice B l.length l.length) l.length i.cs))]) (fun i => i.z) (fun i => l.length - i.i) ⟨0, .slice none 0 0, cs, z1⟩ ⟨Zc.rfl' _, by simp, he.mono hz1⟩ (by (simp only [wrI, wrR, anyL, st, List.append_nil, List.nil_append, List.cons_append]); exact rfl) ?_ ?_
  · exact lE
  · rintro ⟨i, v, ds, z2⟩ ⟨hz2, hi, hd⟩
    dsimp only at *
    refine gO ?_
    (with_reducible refine condI.split (fun hg => ?_) (fun hg => ?_) <;> (try simp only [hg]) <;> (try simp only [seval, go_sem]))
    · refine gO ?_
      have hi' : i < l.length := by simp at hg; omega
      obtain ⟨x, hx⟩ : ∃ x, l[i]? = some x := ⟨_, List.getElem?_eq_getElem hi'⟩
      obtain ⟨rfl, hat⟩ := hB (by omega)
      obtain ⟨c1, ⟨v, rfl, hb⟩, hg1⟩ := hd.get hx
      have hxp := hp x (List.mem_of_getElem? hx)
      obtain ⟨A1, c1, rfl, hc1, hB1, hrb⟩ := hb.form
      (refine ⟨⟨by omega, by omega, hat⟩, ?_⟩; (try simp only [seval, go_sem]))
      (refine ldF.agg _ rfl (by first | exact .inl (.inr ⟨90, _, _, _, _, _, rfl, hg1⟩) | exact (.inr ⟨90, _, _, _, _, _, rfl, hg1⟩)) ?_; (try simp only [seval, go_sem]))
      refine gO ?_
      refine tT ?_; refine callP (cloneBy x.data _ z2 hb (by omega)) rfl rfl ?_; rintro v3 z3 hz3 ⟨A3, rfl, _, hr3⟩; refine gO ?_
      (refine ⟨⟨by omega, by omega, hat⟩, ?_⟩; (try simp only [seval, go_sem]))
      refine stoV_row 90 rfl rfl rfl rfl rfl rfl rfl (by rw [hd.length]; simp; show _ ≤ l.length * 3; omega) ?_
      simp only [seval, go_sem]
      refine gO ?_
      refine ⟨⟨i + 1, .slice none 0 0, putV ds (i * 3 + 2) [.slice A3 x.data.length x.data.length], z3⟩, ⟨Zc.trans' hz2 hz3, by dsimp only; omega, (hd.mono hz3).data hx (By.mk (Nat.le_refl _) hB1 hr3)⟩, by dsimp only; omega, ?_⟩
      exact lE
    · refine gO ?_
      (refine FinV.frzR 90 rfl (fun A4 c4 z4 hv4 hc4 hz4 hr4 => ?_)); dsimp only at hz4; (try subst hv4); simp only [seval, go_sem]
      (first|refine fN ?_|exact fZ)
      refine ⟨_, rfl, ?_⟩
      rcases Nat.eq_zero_or_pos l.length with h0 | h0
      · obtain rfl := List.eq_nil_of_length_eq_zero h0
        exact Sl.nil _ _ _
      · obtain ⟨rfl, _⟩ := hB h0
        injection hv4 with e1 _ e3
        subst e1
        exact ⟨_, _, _, rfl, Nat.le_refl _, hd.mono hz4, hr4⟩
theorem vsI.atR {P : Program} {ic : IC} {K : Exit → St → Prop} {s : St} (k : Nat) {e sz n c : Nat} {A : Option Addr} {cs : List Value} (hk : look k s.L = some (.own (rowA e sz (.slice A n c) n cs))) (h : (0 < n → IsAt A) → vsI P ic K s) : vsI P ic K s := fun C ρ a w hs => by
  obtain ⟨F, hh, hw⟩ := hs.mem
  obtain ⟨F1, F2, ⟨hrow, _⟩, _⟩ := hh.pick hk
  refine h (fun hn => ?_) C ρ a w hs
  rcases hrow.2 with ⟨_, e0⟩ | ⟨g, o, cap, cur, e1, _⟩
  · omega
  · injection e1 with e1 _ _
    exact ⟨g, o, e1⟩
structure CopS where
  i : Nat
  c1 : List Value
  c2 : List Value
  z : Zc
theorem putV_at {c1 c2 : List Value} {i : Nat} {u : Value} (h : c1.length = i) : putV (c1 ++ c2) i [u] = (c1 ++ [u]) ++ c2.drop 1 := by
  subst h; simp [putV, List.take_append, List.drop_append]
set_option maxHeartbeats 4000000
def ic71 : IC := (xR (xt (.box 44 (xr 0)) 1 (xt (.alc 44 [zI, zS, zI, zI, zB]) 2 .done)) (xR (xtF 1 1 3 (xtO 3 4 (xt (.call 106 [xr 4]) 5 (xtF 1 1 6 (xS 6 5 1 .done))))) (xR (xtA 1 5 7 (xS 2 7 5 .done)) .ret)))
theorem ic71_ok : Tryz.f71.body.bind (trC Tryz.prog []) = some ic71 := by kernel_rfl
def fr71 : List FR := [(FR.c 2 5 true)]
theorem fr71_ok : fres Tryz.prog Tryz.f71.results.toList = some fr71 := by kernel_rfl
def ic72 : IC := (xR (xt (.box 46 (xr 0)) 1 (xt (.alc 46 [zI, zI, zS, zB]) 2 .done)) (xR (xtF 1 1 3 (xtF 3 1 4 (xtO 4 5 (xt (.call 29 [xr 5]) 6 (xtF 1 1 7 (xtF 7 1 8 (xS 8 6 1 .done))))))) (xR (xtA 1 4 9 (xS 2 9 4 .done)) .ret)))
theorem ic72_ok : Tryz.f72.body.bind (trC Tryz.prog []) = some ic72 := by kernel_rfl
def fr72 : List FR := [(FR.c 2 4 true)]
theorem fr72_ok : fres Tryz.prog Tryz.f72.results.toList = some fr72 := by kernel_rfl
def ic37 : IC := (xR (xt (.box 24 (xr 0)) 2 (xt (.box 44 (xr 1)) 3 (xt (.mv (xb false)) 4 .done))) (xR (xtA 2 5 5 (xt (.call 26 [xr 5]) 6 (xtM 6 7 (xG (.fad (xr 3) 0) 8 7 true (xG (.ld (xr 8) 1 false) 9 7 true (xG (.call 34 [xr 9, (xi 0), (xi 255)]) 10 7 true (xt (.pick (xr 7) (xr 10) (xb false)) 11 (xtM 11 12 (xG (.fad (xr 3) 2) 13 12 true (xG (.ld (xr 13) 1 false) 14 12 true (xG (.call 34 [xr 14, (xi 0), (xi 9999)]) 15 12 true (xt (.pick (xr 12) (xr 15) (xb false)) 16 (xtM 16 17 (xG (.fad (xr 3) 3) 18 17 true (xG (.ld (xr 18) 1 false) 19 17 true (xG (.call 34 [xr 19, (xi 0), (xi 9999)]) 20 17 true (xt (.pick (xr 17) (xr 20) (xb false)) 21 (xtM 21 22 (xG (.fad (xr 3) 0) 23 22 true (xG (.ld (xr 23) 1 false) 24 22 true (xG (.fad (xr 3) 2) 25 22 true (xG (.ld (xr 25) 1 false) 26 22 true (xG (.fad (xr 3) 3) 27 22 true (xG (.ld (xr 27) 1 false) 28 22 true (xG (.bin .sub (xr 26) (xr 28)) 29 22 true (xG (.bin .eql (xr 24) (xr 29)) 30 22 true (xt (.pick (xr 22) (xr 30) (xb false)) 31 (xtM 31 32 (xG (.fad (xr 3) 1) 33 32 true (xG (.ld (xr 33) 1 false) 34 32 true (xG (.len (xr 34)) 35 32 true (xG (.bin .leq (xr 35) (xi 24)) 36 32 true (xt (.pick (xr 32) (xr 36) (xb false)) 37 (xtM 37 38 (xG (.ld (xr 2) 5 true) 39 38 true (xG (.fad (xr 3) 1) 40 38 true (xG (.ld (xr 40) 1 false) 41 38 true (xG (.call 63 [xr 39, xr 41]) 42 38 true (xt (.pick (xr 38) (xr 42) (xb false)) 43 (xtM 43 4 .done)))))))))))))))))))))))))))))))))))))))) .ret))
theorem ic37_ok : Tryz.f37.body.bind (trC Tryz.prog []) = some ic37 := by kernel_rfl
def fr37 : List FR := [(FR.t 4)]
theorem fr37_ok : fres Tryz.prog Tryz.f37.results.toList = some fr37 := by kernel_rfl
def ic38 : IC := (xR (xt (.box 46 (xr 0)) 1 (xt (.mv (xb false)) 2 .done)) (xR (xtF 1 0 3 (xtO 3 4 (xt (.call 34 [xr 4, (xi 0), (xi 255)]) 5 (xtM 5 6 (xG (.fad (xr 1) 1) 7 6 true (xG (.ld (xr 7) 2 true) 8 6 true (xG (.call 64 [xr 8]) 9 6 true (xt (.pick (xr 6) (xr 9) (xb false)) 10 (xtM 10 2 .done))))))))) .ret))
theorem ic38_ok : Tryz.f38.body.bind (trC Tryz.prog []) = some ic38 := by kernel_rfl
def fr38 : List FR := [(FR.t 2)]
theorem fr38_ok : fres Tryz.prog Tryz.f38.results.toList = some fr38 := by kernel_rfl
def ic140 : IC := (xR (xt (.box 24 (xr 0)) 3 (xt (.box 44 (xr 1)) 4 (xt (.alc 44 [zI, zS, zI, zI, zB]) 6 (xt (.mv (xb false)) 7 .done)))) (.seq (xR (xtA 3 5 10 (xtA 4 5 11 (xt (.call 37 [xr 10, xr 11]) 12 (xtT 12 13 .done)))) (.cond (xr 13) (xR (xt (.bld [zI, zS, zI, zI, zB] []) 14 (xS 6 14 5 (xt (.mv (xb false)) 7 .done))) .ret) .skip)) (xR (xtA 4 5 15 (xt (.call 71 [xr 15]) 16 (xt (.alc 44 [zI, zS, zI, zI, zB]) 8 (xS 8 16 5 .done)))) (.seq (xR (xtF 4 4 17 (xtO 17 18 (xtM 18 19 (xG (.mv (xr 2)) 20 19 false (xG (.len (xr 20)) 21 19 false (xG (.fad (xr 3) 3) 22 19 false (xG (.ld (xr 22) 1 false) 23 19 false (xG (.bin .gtr (xr 21) (xr 23)) 24 19 false (xt (.pick (xr 19) (xb true) (xr 24)) 25 .done))))))))) (.cond (xr 25) (xR (xtA 8 5 26 (xS 6 26 5 (xt (.mv (xb false)) 7 .done))) .ret) .skip)) (xR (xtM 2 27 (xtF 3 2 28 (xtO 28 29 (xt (.call 161 [xr 27, xr 29]) 30 (xtM 30 9 .done))))) (.seq (xR (xtF 4 1 31 (xtO 31 32 (xtL 32 33 (xtM 9 34 (xtL 34 35 (xt (.bin .add (xr 33) (xr 35)) 36 (xt (.bin .gtr (xr 36) (xi 24)) 37 .done))))))) (.cond (xr 37) (xR (xtA 8 5 38 (xS 6 38 5 (xt (.mv (xb false)) 7 .done))) .ret) .skip)) (xR (xtF 8 1 39 (xtO 39 40 (xtM 9 41 (xt (.app 36 (xr 40) (xr 41)) 42 (xt (.call 145 [xr 42]) 43 (xtF 8 1 44 (xS 44 43 1 .done))))))) (xR (xtA 8 5 45 (xS 6 45 5 (xt (.mv (xb true)) 7 .done))) .ret))))))))
theorem ic140_ok : Tryz.f140.body.bind (trC Tryz.prog []) = some ic140 := by kernel_rfl
def fr140 : List FR := [(FR.c 6 5 true), (FR.t 7)]
theorem fr140_ok : fres Tryz.prog Tryz.f140.results.toList = some fr140 := by kernel_rfl
def ic141 : IC := (xR (xt (.box 24 (xr 0)) 2 (xt (.box 44 (xr 1)) 3 (xt (.alc 44 [zI, zS, zI, zI, zB]) 4 (xt (.alc 52 [zI, zI, zI, zB, zB, zI, zI, zI, zS]) 5 (xt (.mv (xb false)) 6 .done))))) (.seq (xR (xtA 2 5 9 (xtA 3 5 10 (xt (.call 37 [xr 9, xr 10]) 11 (xtT 11 12 .done)))) (.cond (xr 12) (xR (xt (.bld [zI, zS, zI, zI, zB] []) 13 (xt (.bld [zI, zI, zI, zB, zB, zI, zI, zI, zS] []) 14 (xS 4 13 5 (xS 5 14 9 (xt (.mv (xb false)) 6 .done))))) .ret) .skip)) (xR (xtA 3 5 15 (xt (.call 71 [xr 15]) 16 (xt (.alc 44 [zI, zS, zI, zI, zB]) 7 (xS 7 16 5 .done)))) (.seq (xR (xtF 3 4 17 (xtO 17 18 (xtM 18 19 (xG (.fad (xr 3) 0) 20 19 false (xG (.ld (xr 20) 1 false) 21 19 false (xG (.bin .eql (xr 21) (xi 0)) 22 19 false (xt (.pick (xr 19) (xb true) (xr 22)) 23 (xtM 23 24 (xG (.fad (xr 3) 1) 25 24 false (xG (.ld (xr 25) 1 false) 26 24 false (xG (.len (xr 26)) 27 24 false (xG (.bin .eql (xr 27) (xi 0)) 28 24 false (xt (.pick (xr 24) (xb true) (xr 28)) 29 (xtM 29 30 (xG (.fad (xr 3) 3) 31 30 false (xG (.ld (xr 31) 1 false) 32 30 false (xG (.bin .eql (xr 32) (xi 9999)) 33 30 false (xt (.pick (xr 30) (xb true) (xr 33)) 34 .done)))))))))))))))))) (.cond (xr 34) (xR (xtA 7 5 35 (xt (.bld [zI, zI, zI, zB, zB, zI, zI, zI, zS] []) 36 (xS 4 35 5 (xS 5 36 9 (xt (.mv (xb false)) 6 .done))))) .ret) .skip)) (xR (xtF 3 1 37 (xtO 37 38 (xt (.iad (xr 38) (xi 0) 3) 39 (xtA 39 3 40 (xt (.alc 63 [zI, zI, zS]) 8 (xS 8 40 3 .done)))))) (xR (xtF 7 1 41 (xtO 41 42 (xt (.slc (xr 42) (some (xi 1)) none 3) 43 (xt (.call 145 [xr 43]) 44 (xtF 7 1 45 (xS 45 44 1 .done)))))) (xR (xtF 7 0 46 (xtO 46 47 (xt (.bin .sub (xr 47) (xi 1)) 48 (xtF 7 0 49 (xS 49 48 1 .done))))) (xR (xtF 7 3 50 (xtO 50 51 (xt (.bin .add (xr 51) (xi 1)) 52 (xtF 7 3 53 (xS 53 52 1 .done))))) (.seq (.reg [4, 5] (xlA 7 5 54 (xpF 8 0 55 (xlO 55 56 (xpF 8 1 57 (xlO 57 58 (xpF 8 2 59 (xlO 59 60 (xm (.call 29 [xr 60]) 61 (xp (.bld [zI, zI, zI, zB, zB, zI, zI, zI, zS] [(0, (1, (xi 3))), (6, (1, (xr 56))), (7, (1, (xr 58))), (8, (1, (xr 61)))]) 62 (.op .m (.sto (xr 4) (xr 54) 5) none none (.op .m (.sto (xr 5) (xr 62) 9) none none (xp (.mv (xb true)) 6 .done))))))))))))) .ret)))))))))
theorem ic141_ok : Tryz.f141.body.bind (trC Tryz.prog []) = some ic141 := by kernel_rfl
def fr141 : List FR := [(FR.c 4 5 true), (FR.c 5 9 true), (FR.t 6)]
theorem fr141_ok : fres Tryz.prog Tryz.f141.results.toList = some fr141 := by kernel_rfl
def ic131 : IC := (xR (xt (.box 24 (xr 0)) 3 (xt (.box 44 (xr 1)) 4 (xt (.alc 44 [zI, zS, zI, zI, zB]) 6 .done))) (.seq (xR (xtA 3 5 8 (xtA 4 5 9 (xt (.call 37 [xr 8, xr 9]) 10 (xtT 10 11 (xtM 11 12 (xG (.mv (xr 2)) 13 12 false (xG (.call 34 [xr 13, (xi 1), (xi 255)]) 14 12 false (xG (.not (xr 14)) 15 12 false (xt (.pick (xr 12) (xb true) (xr 15)) 16 .done))))))))) (.cond (xr 16) (xR (xt (.bld [zI, zS, zI, zI, zB] []) 17 (xS 6 17 5 .done)) .ret) .skip)) (xR (xtA 4 5 18 (xt (.call 71 [xr 18]) 19 (xt (.alc 44 [zI, zS, zI, zI, zB]) 7 (xS 7 19 5 .done)))) (.seq (.block 0 (xR (xtF 4 4 31 (xtO 31 32 (xtM 32 30 .done))) (.cond (xr 30) .skip (xR (xtF 4 0 34 (xtO 34 35 (xtM 2 36 (xt (.bin .add (xr 35) (xr 36)) 37 (xt (.bin .gtr (xr 37) (xi 255)) 38 (xtM 38 39 (xG (.fad (xr 4) 2) 40 39 false (xG (.ld (xr 40) 1 false) 41 39 false (xG (.mv (xr 2)) 42 39 false (xG (.bin .add (xr 41) (xr 42)) 43 39 false (xG (.bin .gtr (xr 43) (xi 9999)) 44 39 false (xt (.pick (xr 39) (xb true) (xr 44)) 45 (xtM 45 33 .done))))))))))))) (.cond (xr 33) (xQ (xtF 7 4 46 (.op .t (.sto (xr 46) (xb true) 1) none none .done))) (xR (xtF 7 0 20 (xtO 20 21 (xtM 2 22 (xt (.bin .add (xr 21) (xr 22)) 23 (xtF 7 0 24 (xS 24 23 1 .done)))))) (xQ (xtF 7 2 25 (xtO 25 26 (xtM 2 27 (xt (.bin .add (xr 26) (xr 27)) 28 (xtF 7 2 29 (xS 29 28 1 .done))))))))))))) (xR (xtA 7 5 47 (xS 6 47 5 .done)) .ret)))))
theorem ic131_ok : Tryz.f131.body.bind (trC Tryz.prog []) = some ic131 := by kernel_rfl
def fr131 : List FR := [(FR.c 6 5 true)]
theorem fr131_ok : fres Tryz.prog Tryz.f131.results.toList = some fr131 := by kernel_rfl
def ic142 : IC := (xR (xt (.box 46 (xr 0)) 1 (xt (.alc 46 [zI, zI, zS, zB]) 2 (xt (.alc 52 [zI, zI, zI, zB, zB, zI, zI, zI, zS]) 3 (xt (.mv (xb false)) 4 .done)))) (.seq (xR (xtA 1 4 6 (xt (.call 38 [xr 6]) 7 (xtT 7 8 .done))) (.cond (xr 8) (xR (xt (.bld [zI, zI, zS, zB] []) 9 (xt (.bld [zI, zI, zI, zB, zB, zI, zI, zI, zS] []) 10 (xS 2 9 4 (xS 3 10 9 (xt (.mv (xb false)) 4 .done))))) .ret) .skip)) (xR (xtA 1 4 11 (xt (.call 72 [xr 11]) 12 (xt (.alc 46 [zI, zI, zS, zB]) 5 (xS 5 12 4 .done)))) (.seq (xR (xtF 1 3 13 (xtO 13 14 (xtM 14 15 (xG (.fad (xr 1) 0) 16 15 false (xG (.ld (xr 16) 1 false) 17 15 false (xG (.bin .geq (xr 17) (xi 6)) 18 15 false (xt (.pick (xr 15) (xb true) (xr 18)) 19 .done))))))) (.cond (xr 19) (xR (xtA 5 4 20 (xt (.bld [zI, zI, zI, zB, zB, zI, zI, zI, zS] []) 21 (xS 2 20 4 (xS 3 21 9 (xt (.mv (xb false)) 4 .done))))) .ret) .skip)) (xR (xtF 5 0 22 (.op .t (.sto (xr 22) (xi 6) 1) none none .done)) (.seq (.reg [2, 3] (xlA 5 4 23 (xpF 1 0 24 (xlO 24 25 (xp (.bin .sub (xi 6) (xr 25)) 26 (xp (.bld [zI, zI, zI, zB, zB, zI, zI, zI, zS] [(0, (1, (xi 4))), (7, (1, (xr 26)))]) 27 (.op .m (.sto (xr 2) (xr 23) 4) none none (.op .m (.sto (xr 3) (xr 27) 9) none none (xp (.mv (xb true)) 4 .done))))))))) .ret))))))
theorem ic142_ok : Tryz.f142.body.bind (trC Tryz.prog []) = some ic142 := by kernel_rfl
def fr142 : List FR := [(FR.c 2 4 true), (FR.c 3 9 true), (FR.t 4)]
theorem fr142_ok : fres Tryz.prog Tryz.f142.results.toList = some fr142 := by kernel_rfl
def ic160 : IC := (xR (xt (.box 24 (xr 1)) 4 (xt (.box 52 (xr 2)) 5 (xt (.mv (.const zS)) 6 .done))) (.seq (.block 0 (xR (xtM 0 11 (xtN 11 12 (xtF 12 3 13 (xtO 13 14 (xtM 14 10 .done))))) (.cond (xr 10) (xR (xt (.mv (.const zS)) 6 .done) .ret) (xR (xtM 0 16 (xtN 16 17 (xtF 17 0 18 (xtO 18 19 (xt (.bin .eql (xr 19) (xi 0)) 20 (xtM 20 21 (xG (.fad (xr 5) 7) 22 21 false (xG (.ld (xr 22) 1 false) 23 21 false (xG (.fad (xr 4) 3) 24 21 false (xG (.ld (xr 24) 1 false) 25 21 false (xG (.bin .gtr (xr 23) (xr 25)) 26 21 false (xt (.pick (xr 21) (xb true) (xr 26)) 27 (xtM 27 28 (xG (.fad (xr 5) 8) 29 28 false (xG (.ld (xr 29) 1 false) 30 28 false (xG (.len (xr 30)) 31 28 false (xG (.fad (xr 4) 2) 32 28 false (xG (.ld (xr 32) 1 false) 33 28 false (xG (.bin .gtr (xr 31) (xr 33)) 34 28 false (xt (.pick (xr 28) (xb true) (xr 34)) 35 (xtM 35 15 .done))))))))))))))))))))) (.cond (xr 15) (xR (xtM 0 36 (xtN 36 37 (xtF 37 3 38 (.op .t (.sto (xr 38) (xb true) 1) none none .done)))) (xR (xt (.mv (.const zS)) 6 .done) .ret)) .skip))))) (xR (xtM 0 39 (xtN 39 40 (xtF 40 0 41 (xtO 41 42 (xt (.bin .sub (xr 42) (xi 1)) 43 (xtN 39 44 (xtF 44 0 45 (xS 45 43 1 .done)))))))) (.seq (.join [] (xpM 0 47 (xpN 47 48 (xpF 48 1 49 (xlA 49 2 50 (xpF 5 6 51 (xlO 51 52 (xpF 5 7 53 (xlO 53 54 (xpF 5 8 55 (xlO 55 56 (xp (.bld [zI, zI, zS] [(0, (1, (xr 52))), (1, (1, (xr 54))), (2, (1, (xr 56)))]) 57 (.alt (xm (.call 174 [xr 50, xr 57]) 58 (xpM 58 46 (xpE 46 0 59 (xpE 46 1 60 (xpE 46 2 61 (xm (.alc 40 [zI, zS]) 7 (xS 7 59 2 (xpM 60 8 (xpM 61 9 .done))))))))) (xm (.alc 40 [zI, zS]) 7 (xm (.call 174 [xr 50, xr 57]) 58 (xpM 58 46 (xpE 46 0 59 (xpE 46 1 60 (xpE 46 2 61 (xS 7 59 2 (xpM 60 8 (xpM 61 9 .done)))))))))))))))))))))) (xR (xtM 0 62 (xtA 7 2 63 (xtN 62 64 (xtF 64 1 65 (xS 65 63 2 .done))))) (.seq (xR (xtM 9 66 .done) (.block 1 (xR (xt (.bin .eql (xr 66) (xi 3)) 68 (xtM 68 67 .done)) (.cond (xr 67) (xQ (xtM 0 69 (xtN 69 70 (xtF 70 3 71 (.op .t (.sto (xr 71) (xb true) 1) none none .done))))) (xR (xt (.bin .eql (xr 66) (xi 2)) 73 (xtM 73 72 .done)) (.cond (xr 72) (xR (xtM 8 74 (xt (.bsl 22 1 1 [zS] [(0, (xr 74))]) 75 (xtM 75 6 .done))) .ret) .skip)))))) (xR (xt (.mv (.const zS)) 6 .done) .ret)))))))
theorem ic160_ok : Tryz.f160.body.bind (trC Tryz.prog []) = some ic160 := by kernel_rfl
def fr160 : List FR := [(FR.t 6)]
theorem fr160_ok : fres Tryz.prog Tryz.f160.results.toList = some fr160 := by kernel_rfl
def ic132 : IC := (xR (xt (.box 24 (xr 0)) 3 (xt (.box 46 (xr 1)) 4 (xt (.box 52 (xr 2)) 5 (xt (.alc 46 [zI, zI, zS, zB]) 6 (xt (.mv (.const zS)) 7 .done))))) (.seq (xR (xtA 3 5 10 (xt (.call 26 [xr 10]) 11 (xtT 11 12 (xtM 12 13 (xG (.ld (xr 4) 4 true) 14 13 false (xG (.call 38 [xr 14]) 15 13 false (xG (.not (xr 15)) 16 13 false (xt (.pick (xr 13) (xb true) (xr 16)) 17 (xtM 17 18 (xG (.fad (xr 5) 0) 19 18 false (xG (.ld (xr 19) 1 false) 20 18 false (xG (.bin .neq (xr 20) (xi 3)) 21 18 false (xt (.pick (xr 18) (xb true) (xr 21)) 22 (xtM 22 23 (xG (.ld (xr 5) 9 true) 24 23 false (xG (.call 60 [xr 24]) 25 23 false (xG (.not (xr 25)) 26 23 false (xt (.pick (xr 23) (xb true) (xr 26)) 27 .done)))))))))))))))))) (.cond (xr 27) (xR (xt (.bld [zI, zI, zS, zB] []) 28 (xS 6 28 4 (xt (.mv (.const zS)) 7 .done))) .ret) .skip)) (xR (xtA 4 4 29 (xt (.call 72 [xr 29]) 30 (xt (.alc 46 [zI, zI, zS, zB]) 8 (xS 8 30 4 .done)))) (xR (xtA 3 5 31 (xtA 5 9 32 (xt (.call 160 [xr 8, xr 31, xr 32]) 33 (xtM 33 9 .done)))) (xR (xtA 8 4 34 (xt (.call 72 [xr 34]) 35 (xtM 9 36 (xS 6 35 4 (xtM 36 7 .done))))) .ret)))))
theorem ic132_ok : Tryz.f132.body.bind (trC Tryz.prog []) = some ic132 := by kernel_rfl
def fr132 : List FR := [(FR.c 6 4 true), (FR.t 7)]
theorem fr132_ok : fres Tryz.prog Tryz.f132.results.toList = some fr132 := by kernel_rfl
def ic92 : IC := (xR (xt (.box 44 (xr 0)) 1 (xt (.alc 44 [zI, zS, zI, zI, zB]) 2 .done)) (xR (xtA 1 5 4 (xt (.alc 44 [zI, zS, zI, zI, zB]) 3 (xS 3 4 5 .done))) (xR (xtF 1 1 5 (xtO 5 6 (xt (.call 128 [xr 6]) 7 (xtF 3 1 8 (xS 8 7 1 .done))))) (xR (xtA 3 5 9 (xS 2 9 5 .done)) .ret))))
theorem ic92_ok : Tryz.f92.body.bind (trC Tryz.prog []) = some ic92 := by kernel_rfl
def fr92 : List FR := [(FR.c 2 5 true)]
theorem fr92_ok : fres Tryz.prog Tryz.f92.results.toList = some fr92 := by kernel_rfl
def ic93 : IC := (xR (xt (.box 46 (xr 0)) 1 (xt (.alc 46 [zI, zI, zS, zB]) 2 .done)) (xR (xtA 1 4 4 (xt (.alc 46 [zI, zI, zS, zB]) 3 (xS 3 4 4 .done))) (xR (xt (.bsl 5 1 0 [(.int .u8 0)] []) 5 (xtF 1 1 6 (xtF 6 1 7 (xtO 7 8 (xt (.app 22 (xr 5) (xr 8)) 9 (xtF 3 1 10 (xtF 10 1 11 (xS 11 9 1 .done)))))))) (xR (xtA 3 4 12 (xS 2 12 4 .done)) .ret))))
theorem ic93_ok : Tryz.f93.body.bind (trC Tryz.prog []) = some ic93 := by kernel_rfl
def fr93 : List FR := [(FR.c 2 4 true)]
theorem fr93_ok : fres Tryz.prog Tryz.f93.results.toList = some fr93 := by kernel_rfl
def ic149 : IC := (xR (xt (.box 24 (xr 0)) 2 (xt (.box 44 (xr 1)) 3 (xt (.mv (xb false)) 4 .done))) (xR (xtA 2 5 5 (xt (.call 80 [xr 5]) 6 (xtM 6 7 (xG (.fad (xr 3) 0) 8 7 true (xG (.ld (xr 8) 1 false) 9 7 true (xG (.call 84 [xr 9, (xi 0), (xi 255)]) 10 7 true (xt (.pick (xr 7) (xr 10) (xb false)) 11 (xtM 11 12 (xG (.fad (xr 3) 1) 13 12 true (xG (.ld (xr 13) 1 false) 14 12 true (xG (.len (xr 14)) 15 12 true (xG (.bin .leq (xr 15) (xi 24)) 16 12 true (xt (.pick (xr 12) (xr 16) (xb false)) 17 (xtM 17 18 (xG (.fad (xr 3) 2) 19 18 true (xG (.ld (xr 19) 1 false) 20 18 true (xG (.call 84 [xr 20, (xi 0), (xi 9999)]) 21 18 true (xt (.pick (xr 18) (xr 21) (xb false)) 22 (xtM 22 23 (xG (.fad (xr 3) 3) 24 23 true (xG (.ld (xr 24) 1 false) 25 23 true (xG (.call 84 [xr 25, (xi 0), (xi 9999)]) 26 23 true (xt (.pick (xr 23) (xr 26) (xb false)) 27 (xtM 27 28 (xG (.fad (xr 3) 2) 29 28 true (xG (.ld (xr 29) 1 false) 30 28 true (xG (.fad (xr 3) 3) 31 28 true (xG (.ld (xr 31) 1 false) 32 28 true (xG (.bin .sub (xr 30) (xr 32)) 33 28 true (xG (.fad (xr 3) 0) 34 28 true (xG (.ld (xr 34) 1 false) 35 28 true (xG (.bin .eql (xr 33) (xr 35)) 36 28 true (xt (.pick (xr 28) (xr 36) (xb false)) 37 (xtM 37 38 (xG (.fad (xr 3) 1) 39 38 true (xG (.ld (xr 39) 1 false) 40 38 true (xG (.fad (xr 2) 2) 41 38 true (xG (.ld (xr 41) 1 false) 42 38 true (xG (.call 168 [xr 40, xr 42]) 43 38 true (xt (.pick (xr 38) (xr 43) (xb false)) 44 (xtM 44 4 .done))))))))))))))))))))))))))))))))))))))))) .ret))
theorem ic149_ok : Tryz.f149.body.bind (trC Tryz.prog []) = some ic149 := by kernel_rfl
def fr149 : List FR := [(FR.t 4)]
theorem fr149_ok : fres Tryz.prog Tryz.f149.results.toList = some fr149 := by kernel_rfl
def ic153 : IC := (xR (xt (.box 46 (xr 0)) 1 (xt (.mv (xb false)) 2 .done)) (xR (xtF 1 0 3 (xtO 3 4 (xt (.call 84 [xr 4, (xi 0), (xi 255)]) 5 (xtM 5 6 (xG (.fad (xr 1) 1) 7 6 true (xG (.ld (xr 7) 2 true) 8 6 true (xG (.call 170 [xr 8]) 9 6 true (xt (.pick (xr 6) (xr 9) (xb false)) 10 (xtM 10 2 .done))))))))) .ret))
theorem ic153_ok : Tryz.f153.body.bind (trC Tryz.prog []) = some ic153 := by kernel_rfl
def fr153 : List FR := [(FR.t 2)]
theorem fr153_ok : fres Tryz.prog Tryz.f153.results.toList = some fr153 := by kernel_rfl
def ic116 : IC := (xR (xt (.box 24 (xr 0)) 3 (xt (.box 44 (xr 1)) 4 (xt (.alc 44 [zI, zS, zI, zI, zB]) 6 (xt (.mv (xb false)) 7 .done)))) (.seq (xR (xtA 3 5 10 (xtA 4 5 11 (xt (.call 149 [xr 10, xr 11]) 12 (xtT 12 13 .done)))) (.cond (xr 13) (xR (xt (.bld [zI, zS, zI, zI, zB] []) 14 (xS 6 14 5 (xt (.mv (xb false)) 7 .done))) .ret) .skip)) (xR (xtA 4 5 15 (xt (.call 92 [xr 15]) 16 (xt (.alc 44 [zI, zS, zI, zI, zB]) 8 (xS 8 16 5 .done)))) (xR (xtM 2 17 (xtF 3 2 18 (xtO 18 19 (xt (.call 148 [xr 17, xr 19]) 20 (xtM 20 9 .done))))) (.seq (xR (xtF 4 4 21 (xtO 21 22 (xtM 22 23 (xG (.mv (xr 2)) 24 23 false (xG (.len (xr 24)) 25 23 false (xG (.fad (xr 3) 3) 26 23 false (xG (.ld (xr 26) 1 false) 27 23 false (xG (.bin .gtr (xr 25) (xr 27)) 28 23 false (xt (.pick (xr 23) (xb true) (xr 28)) 29 (xtM 29 30 (xG (.fad (xr 4) 1) 31 30 false (xG (.ld (xr 31) 1 false) 32 30 false (xG (.len (xr 32)) 33 30 false (xG (.mv (xr 9)) 34 30 false (xG (.len (xr 34)) 35 30 false (xG (.bin .add (xr 33) (xr 35)) 36 30 false (xG (.bin .gtr (xr 36) (xi 24)) 37 30 false (xt (.pick (xr 30) (xb true) (xr 37)) 38 .done)))))))))))))))))) (.cond (xr 38) (xR (xtA 8 5 39 (xS 6 39 5 (xt (.mv (xb false)) 7 .done))) .ret) .skip)) (xR (xtF 8 1 40 (xtO 40 41 (xtM 9 42 (xt (.app 36 (xr 41) (xr 42)) 43 (xtF 8 1 44 (xS 44 43 1 .done)))))) (xR (xtA 8 5 45 (xt (.call 92 [xr 45]) 46 (xS 6 46 5 (xt (.mv (xb true)) 7 .done)))) .ret)))))))
theorem ic116_ok : Tryz.f116.body.bind (trC Tryz.prog []) = some ic116 := by kernel_rfl
def fr116 : List FR := [(FR.c 6 5 true), (FR.t 7)]
theorem fr116_ok : fres Tryz.prog Tryz.f116.results.toList = some fr116 := by kernel_rfl
def ic118 : IC := (xR (xt (.box 24 (xr 0)) 2 (xt (.box 44 (xr 1)) 3 (xt (.alc 44 [zI, zS, zI, zI, zB]) 4 (xt (.alc 52 [zI, zI, zI, zB, zB, zI, zI, zI, zS]) 5 (xt (.mv (xb false)) 6 .done))))) (.seq (xR (xtA 2 5 9 (xtA 3 5 10 (xt (.call 149 [xr 9, xr 10]) 11 (xtT 11 12 .done)))) (.cond (xr 12) (xR (xt (.bld [zI, zS, zI, zI, zB] []) 13 (xt (.bld [zI, zI, zI, zB, zB, zI, zI, zI, zS] []) 14 (xS 4 13 5 (xS 5 14 9 (xt (.mv (xb false)) 6 .done))))) .ret) .skip)) (xR (xtA 3 5 15 (xt (.call 92 [xr 15]) 16 (xt (.alc 44 [zI, zS, zI, zI, zB]) 7 (xS 7 16 5 .done)))) (.seq (xR (xtF 3 4 17 (xtO 17 18 (xtM 18 19 (xG (.fad (xr 3) 0) 20 19 false (xG (.ld (xr 20) 1 false) 21 19 false (xG (.bin .eql (xr 21) (xi 0)) 22 19 false (xt (.pick (xr 19) (xb true) (xr 22)) 23 (xtM 23 24 (xG (.fad (xr 3) 1) 25 24 false (xG (.ld (xr 25) 1 false) 26 24 false (xG (.len (xr 26)) 27 24 false (xG (.bin .eql (xr 27) (xi 0)) 28 24 false (xt (.pick (xr 24) (xb true) (xr 28)) 29 (xtM 29 30 (xG (.fad (xr 3) 3) 31 30 false (xG (.ld (xr 31) 1 false) 32 30 false (xG (.bin .eql (xr 32) (xi 9999)) 33 30 false (xt (.pick (xr 30) (xb true) (xr 33)) 34 .done)))))))))))))))))) (.cond (xr 34) (xR (xtA 7 5 35 (xt (.bld [zI, zI, zI, zB, zB, zI, zI, zI, zS] []) 36 (xS 4 35 5 (xS 5 36 9 (xt (.mv (xb false)) 6 .done))))) .ret) .skip)) (xR (xtF 7 1 37 (xtO 37 38 (xt (.iad (xr 38) (xi 0) 3) 39 (xtA 39 3 40 (xt (.alc 63 [zI, zI, zS]) 8 (xS 8 40 3 .done)))))) (xR (xtF 7 1 41 (xtO 41 42 (xt (.slc (xr 42) (some (xi 1)) none 3) 43 (xt (.call 128 [xr 43]) 44 (xtF 7 1 45 (xS 45 44 1 .done)))))) (xR (xtF 3 0 46 (xtO 46 47 (xt (.bin .sub (xr 47) (xi 1)) 48 (xtF 7 0 49 (xS 49 48 1 .done))))) (xR (xtF 3 3 50 (xtO 50 51 (xt (.bin .add (xr 51) (xi 1)) 52 (xtF 7 3 53 (xS 53 52 1 .done))))) (.seq (.reg [4, 5] (xlA 7 5 54 (xpF 8 0 55 (xlO 55 56 (xpF 8 1 57 (xlO 57 58 (xpF 8 2 60 (xlO 60 61 (xm (.bsl 5 1 0 [(.int .u8 0)] []) 59 (xm (.app 22 (xr 59) (xr 61)) 62 (xp (.bld [zI, zI, zI, zB, zB, zI, zI, zI, zS] [(0, (1, (xi 3))), (6, (1, (xr 56))), (7, (1, (xr 58))), (8, (1, (xr 62)))]) 63 (.op .m (.sto (xr 4) (xr 54) 5) none none (.op .m (.sto (xr 5) (xr 63) 9) none none (xp (.mv (xb true)) 6 .done)))))))))))))) .ret)))))))))
theorem ic118_ok : Tryz.f118.body.bind (trC Tryz.prog []) = some ic118 := by kernel_rfl
def fr118 : List FR := [(FR.c 4 5 true), (FR.c 5 9 true), (FR.t 6)]
theorem fr118_ok : fres Tryz.prog Tryz.f118.results.toList = some fr118 := by kernel_rfl
def ic156 : IC := (xR (xt (.box 24 (xr 0)) 3 (xt (.box 44 (xr 1)) 4 (xt (.alc 44 [zI, zS, zI, zI, zB]) 6 .done))) (.seq (xR (xtA 3 5 8 (xtA 4 5 9 (xt (.call 149 [xr 8, xr 9]) 10 (xtT 10 11 (xtM 11 12 (xG (.mv (xr 2)) 13 12 false (xG (.call 84 [xr 13, (xi 1), (xi 255)]) 14 12 false (xG (.not (xr 14)) 15 12 false (xt (.pick (xr 12) (xb true) (xr 15)) 16 .done))))))))) (.cond (xr 16) (xR (xt (.bld [zI, zS, zI, zI, zB] []) 17 (xS 6 17 5 .done)) .ret) .skip)) (xR (xtA 4 5 18 (xt (.call 92 [xr 18]) 19 (xt (.alc 44 [zI, zS, zI, zI, zB]) 7 (xS 7 19 5 .done)))) (.seq (xR (xtF 4 4 20 (xtO 20 21 .done)) (.cond (xr 21) (xR (xtA 7 5 22 (xS 6 22 5 .done)) .ret) .skip)) (.seq (xR (xtF 4 0 23 (xtO 23 24 (xtM 2 25 (xt (.bin .add (xr 24) (xr 25)) 26 (xt (.bin .gtr (xr 26) (xi 255)) 27 (xtM 27 28 (xG (.fad (xr 4) 2) 29 28 false (xG (.ld (xr 29) 1 false) 30 28 false (xG (.mv (xr 2)) 31 28 false (xG (.bin .add (xr 30) (xr 31)) 32 28 false (xG (.bin .gtr (xr 32) (xi 9999)) 33 28 false (xt (.pick (xr 28) (xb true) (xr 33)) 34 .done)))))))))))) (.cond (xr 34) (xR (xtF 7 4 35 (.op .t (.sto (xr 35) (xb true) 1) none none .done)) (xR (xtA 7 5 36 (xS 6 36 5 .done)) .ret)) .skip)) (xR (xtF 4 0 37 (xtO 37 38 (xtM 2 39 (xt (.bin .add (xr 38) (xr 39)) 40 (xtF 7 0 41 (xS 41 40 1 .done)))))) (xR (xtF 4 2 42 (xtO 42 43 (xtM 2 44 (xt (.bin .add (xr 43) (xr 44)) 45 (xtF 7 2 46 (xS 46 45 1 .done)))))) (xR (xtA 7 5 47 (xS 6 47 5 .done)) .ret))))))))
theorem ic156_ok : Tryz.f156.body.bind (trC Tryz.prog []) = some ic156 := by kernel_rfl
def fr156 : List FR := [(FR.c 6 5 true)]
theorem fr156_ok : fres Tryz.prog Tryz.f156.results.toList = some fr156 := by kernel_rfl
def ic124 : IC := (xR (xt (.box 46 (xr 0)) 1 (xt (.alc 46 [zI, zI, zS, zB]) 2 (xt (.alc 52 [zI, zI, zI, zB, zB, zI, zI, zI, zS]) 3 (xt (.mv (xb false)) 4 .done)))) (.seq (xR (xtA 1 4 6 (xt (.call 153 [xr 6]) 7 (xtT 7 8 .done))) (.cond (xr 8) (xR (xt (.bld [zI, zI, zS, zB] []) 9 (xt (.bld [zI, zI, zI, zB, zB, zI, zI, zI, zS] []) 10 (xS 2 9 4 (xS 3 10 9 (xt (.mv (xb false)) 4 .done))))) .ret) .skip)) (xR (xtA 1 4 11 (xt (.call 93 [xr 11]) 12 (xt (.alc 46 [zI, zI, zS, zB]) 5 (xS 5 12 4 .done)))) (.seq (xR (xtF 1 3 13 (xtO 13 14 (xtM 14 15 (xG (.fad (xr 1) 0) 16 15 false (xG (.ld (xr 16) 1 false) 17 15 false (xG (.bin .geq (xr 17) (xi 6)) 18 15 false (xt (.pick (xr 15) (xb true) (xr 18)) 19 .done))))))) (.cond (xr 19) (xR (xtA 5 4 20 (xt (.bld [zI, zI, zI, zB, zB, zI, zI, zI, zS] []) 21 (xS 2 20 4 (xS 3 21 9 (xt (.mv (xb false)) 4 .done))))) .ret) .skip)) (xR (xtF 5 0 22 (.op .t (.sto (xr 22) (xi 6) 1) none none .done)) (.seq (.reg [2, 3] (xlA 5 4 23 (xpF 1 0 24 (xlO 24 25 (xp (.bin .sub (xi 6) (xr 25)) 26 (xp (.bld [zI, zI, zI, zB, zB, zI, zI, zI, zS] [(0, (1, (xi 4))), (7, (1, (xr 26)))]) 27 (.op .m (.sto (xr 2) (xr 23) 4) none none (.op .m (.sto (xr 3) (xr 27) 9) none none (xp (.mv (xb true)) 4 .done))))))))) .ret))))))
theorem ic124_ok : Tryz.f124.body.bind (trC Tryz.prog []) = some ic124 := by kernel_rfl
def fr124 : List FR := [(FR.c 2 4 true), (FR.c 3 9 true), (FR.t 4)]
theorem fr124_ok : fres Tryz.prog Tryz.f124.results.toList = some fr124 := by kernel_rfl
def ic157 : IC := (xR (xt (.box 24 (xr 0)) 3 (xt (.box 46 (xr 1)) 4 (xt (.box 52 (xr 2)) 5 (xt (.alc 46 [zI, zI, zS, zB]) 6 (xt (.mv (.const zS)) 7 .done))))) (.seq (xR (xtA 3 5 12 (xt (.call 80 [xr 12]) 13 (xtT 13 14 (xtM 14 15 (xG (.ld (xr 4) 4 true) 16 15 false (xG (.call 153 [xr 16]) 17 15 false (xG (.not (xr 17)) 18 15 false (xt (.pick (xr 15) (xb true) (xr 18)) 19 (xtM 19 20 (xG (.ld (xr 5) 9 true) 21 20 false (xG (.call 111 [xr 21]) 22 20 false (xG (.not (xr 22)) 23 20 false (xt (.pick (xr 20) (xb true) (xr 23)) 24 (xtM 24 25 (xG (.fad (xr 5) 0) 26 25 false (xG (.ld (xr 26) 1 false) 27 25 false (xG (.bin .neq (xr 27) (xi 3)) 28 25 false (xt (.pick (xr 25) (xb true) (xr 28)) 29 .done)))))))))))))))))) (.cond (xr 29) (xR (xt (.bld [zI, zI, zS, zB] []) 30 (xt (.bsl 22 1 0 [zS] []) 31 (xS 6 30 4 (xtM 31 7 .done)))) .ret) .skip)) (xR (xtA 4 4 32 (xt (.call 93 [xr 32]) 33 (xt (.alc 46 [zI, zI, zS, zB]) 8 (xS 8 33 4 .done)))) (.seq (xR (xtF 4 3 34 (xtO 34 35 .done)) (.cond (xr 35) (xR (xtA 8 4 36 (xt (.bsl 22 1 0 [zS] []) 37 (xS 6 36 4 (xtM 37 7 .done)))) .ret) .skip)) (.seq (xR (xtF 4 0 38 (xtO 38 39 (xt (.bin .eql (xr 39) (xi 0)) 40 (xtM 40 41 (xG (.fad (xr 5) 7) 42 41 false (xG (.ld (xr 42) 1 false) 43 41 false (xG (.fad (xr 3) 3) 44 41 false (xG (.ld (xr 44) 1 false) 45 41 false (xG (.bin .gtr (xr 43) (xr 45)) 46 41 false (xt (.pick (xr 41) (xb true) (xr 46)) 47 (xtM 47 48 (xG (.fad (xr 5) 8) 49 48 false (xG (.ld (xr 49) 1 false) 50 48 false (xG (.len (xr 50)) 51 48 false (xG (.fad (xr 3) 2) 52 48 false (xG (.ld (xr 52) 1 false) 53 48 false (xG (.bin .gtr (xr 51) (xr 53)) 54 48 false (xt (.pick (xr 48) (xb true) (xr 54)) 55 .done)))))))))))))))))) (.cond (xr 55) (xR (xtF 8 3 56 (.op .t (.sto (xr 56) (xb true) 1) none none .done)) (xR (xtA 8 4 57 (xt (.bsl 22 1 0 [zS] []) 58 (xS 6 57 4 (xtM 58 7 .done)))) .ret)) .skip)) (xR (xtF 8 1 60 (xtA 60 2 61 (xtF 5 6 62 (xtO 62 63 (xtF 5 7 64 (xtO 64 65 (xtF 5 8 66 (xtO 66 67 (xt (.bld [zI, zI, zS] [(0, (1, (xr 63))), (1, (1, (xr 65))), (2, (1, (xr 67)))]) 68 (xt (.call 173 [xr 61, xr 68]) 69 (xtM 69 59 (xtE 59 0 70 (xtE 59 1 71 (xtE 59 2 72 (xt (.alc 40 [zI, zS]) 9 (xS 9 70 2 (xtM 71 10 (xtM 72 11 .done)))))))))))))))))) (xR (xtA 9 2 73 (xtF 8 1 74 (xS 74 73 2 .done))) (xR (xtF 4 0 75 (xtO 75 76 (xt (.bin .sub (xr 76) (xi 1)) 77 (xtF 8 0 78 (xS 78 77 1 .done))))) (.seq (xR (xtM 11 79 (xt (.bin .eql (xr 79) (xi 3)) 80 .done)) (.cond (xr 80) (xQ (xtF 8 3 81 (.op .t (.sto (xr 81) (xb true) 1) none none .done))) .skip)) (.seq (xR (xtM 11 82 (xt (.bin .eql (xr 82) (xi 2)) 83 .done)) (.cond (xr 83) (xR (xtA 8 4 84 (xt (.call 93 [xr 84]) 85 (xtM 10 86 (xt (.bsl 22 1 1 [zS] [(0, (xr 86))]) 87 (xt (.call 94 [xr 87]) 88 (xS 6 85 4 (xtM 88 7 .done))))))) .ret) .skip)) (xR (xtA 8 4 89 (xt (.call 93 [xr 89]) 90 (xt (.bsl 22 1 0 [zS] []) 91 (xS 6 90 4 (xtM 91 7 .done))))) .ret)))))))))))
theorem ic157_ok : Tryz.f157.body.bind (trC Tryz.prog []) = some ic157 := by kernel_rfl
def fr157 : List FR := [(FR.c 6 4 true), (FR.t 7)]
theorem fr157_ok : fres Tryz.prog Tryz.f157.results.toList = some fr157 := by kernel_rfl
end Go.Proofs.YtnkhjnieidlknaaGreat
