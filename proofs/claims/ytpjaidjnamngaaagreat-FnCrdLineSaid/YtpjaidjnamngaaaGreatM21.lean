/- What a draw picks. · What is drawn: codes opened, bytes. · What is drawn to happen, on a link that keeps all. · Two ends at their beginning, by the reference. · Two ends at their beginning, by the reference: the walk. · Two ends that stay. -/
import Derived.Test.YtpjaidjnamngaaaGreatM20
import Derived.LoopN
namespace Go.Proofs.YtpjaidjnamngaaaGreat
set_option linter.unusedVariables false
set_option linter.unusedSimpArgs false
open Go.RowKit
set_option maxRecDepth 100000
set_option maxHeartbeats 1000000
abbrev rdA (b : Nat) (A : Option Addr) (n c : Nat) (p : Int) : Asrt := ptrA 119 b [.slice A n c, .int .i64 p]
theorem pick_s (b : Nat) (A : Option Addr) (c : Nat) (code : List Int) (p n : Int) (z : Zc) (hb : By z code (.slice A code.length c)) (hp : 0 ≤ p ∧ p ≤ 1000000) (hl : code.length ≤ 2000) (hn : -1000000 ≤ n ∧ n ≤ 1000000) :
    Spec Tryz.prog 53 [.pointer (some ⟨b, 0, none⟩), .int .i64 n] z (starL [rdA b A code.length c p]) fun v z' A' => ∃ x : Int, v = .int .i64 x ∧ A' = starL [rdA b A code.length c (p + 1)] ∧ z = z' ∧ 0 ≤ x ∧ (1 ≤ n → x < n) ∧ (n < 1 → x = 0) := by
  obtain ⟨A', c', hs, hc, hB, hr⟩ := hb.form
  injection hs with e1 _ e3
  subst e1
  subst e3
  have w1 : IntKind.i64.wrap (p + 1) = p + 1 := wrap_in (by omega) (by omega)
  have w2 : IntKind.i64.wrap (p + 1 - 1) = p := by rw [wrap_in (by omega) (by omega)]; omega
  (refine spec_enterP [] Tryz.func53 ic53_ok fr53_ok Tryz.ntmps53 rfl ?_; simp only [seval, go_sem, ic53, fr53, zipL, vals])
  ((try simp only [seval, go_sem]); repeat ((first | with_reducible refine vsI.id ?_ | with_reducible refine vcI_cond ?_); (try simp only [seval, go_sem])))
  simp only [w1]
  (with_reducible refine guardR.split (fun hg => ?_) (fun hg => ?_) <;> (try simp only [hg]) <;> simp only [seval, go_sem])
  · ((try simp only [seval, go_sem]); repeat ((first | with_reducible refine vsI.id ?_ | with_reducible refine vcI_cond ?_); (try simp only [seval, go_sem])))
    (refine FinV.give 1000 0 2001 2000 rfl rfl rfl ?_); simp only [seval, go_sem, giveSt, subV, subC, subE, subL]
    (refine FinV.tf (Tf.pack 999 [1000] (by simp only [popL, look, del, Nat.reduceEqDiff, reduceCtorEq, if_true, if_false, reduceIte, Nat.succ_ne_self]; exact rfl) (by simp only [look, Nat.reduceEqDiff, reduceCtorEq, if_true, if_false, reduceIte])) ?_); dsimp only
    (((try simp only [seval, go_sem]); repeat ((first | with_reducible refine vsI.id ?_ | with_reducible refine vcI_cond ?_); (try simp only [seval, go_sem]))); refine FinV.own 999 rfl ?_; simp only [finE, finS, gt, look, SV.toV, SC.toV, allV, tupV, List.map_cons, List.map_nil, List.length_cons, List.length_nil, Nat.reduceAdd, Nat.reduceEqDiff, reduceCtorEq, if_true, if_false, reduceIte, Nat.succ_ne_self, true_and, List.getElem?_cons_zero, Nat.zero_add, Nat.add_zero])
    have : n < 1 := by simpa using hg
    exact ⟨0, rfl, by omega, by omega, by omega⟩
  · have hn1 : 1 ≤ n := by simp at hg; omega
    ((try simp only [seval, go_sem]); repeat ((first | with_reducible refine vsI.id ?_ | with_reducible refine vcI_cond ?_); (try simp only [seval, go_sem])))
    (with_reducible refine condI.split (fun hg => ?_) (fun hg => ?_) <;> (try simp only [hg]) <;> (try simp only [seval, go_sem]))
    · ((try simp only [seval, go_sem]); repeat ((first | with_reducible refine vsI.id ?_ | with_reducible refine vcI_cond ?_); (try simp only [seval, go_sem])))
      (refine FinV.give 1000 0 2001 2000 rfl rfl rfl ?_); simp only [seval, go_sem, giveSt, subV, subC, subE, subL]
      (refine FinV.tf (Tf.pack 999 [1000] (by simp only [popL, look, del, Nat.reduceEqDiff, reduceCtorEq, if_true, if_false, reduceIte, Nat.succ_ne_self]; exact rfl) (by simp only [look, Nat.reduceEqDiff, reduceCtorEq, if_true, if_false, reduceIte])) ?_); dsimp only
      (((try simp only [seval, go_sem]); repeat ((first | with_reducible refine vsI.id ?_ | with_reducible refine vcI_cond ?_); (try simp only [seval, go_sem]))); refine FinV.own 999 rfl ?_; simp only [finE, finS, gt, look, SV.toV, SC.toV, allV, tupV, List.map_cons, List.map_nil, List.length_cons, List.length_nil, Nat.reduceAdd, Nat.reduceEqDiff, reduceCtorEq, if_true, if_false, reduceIte, Nat.succ_ne_self, true_and, List.getElem?_cons_zero, Nat.zero_add, Nat.add_zero])
      exact ⟨0, rfl, by omega, by omega, by omega⟩
    · have hl0 : 0 < code.length := by simp at hg; exact List.length_pos_iff.2 hg
      have hat : IsAt A := byte_is hr hl0
      ((try simp only [seval, go_sem]); repeat ((first | with_reducible refine vsI.id ?_ | with_reducible refine vcI_cond ?_); (try simp only [seval, go_sem])))
      simp only [w2]
      (with_reducible refine condI.split (fun hg => ?_) (fun hg => ?_) <;> (try simp only [hg]) <;> (try simp only [seval, go_sem]))
      · have hpl : p.toNat < code.length := by simp at hg; omega
        obtain ⟨x, hx⟩ : ∃ x, code[p.toNat]? = some x := ⟨_, List.getElem?_eq_getElem hpl⟩
        have hx255 := hB x (List.mem_of_getElem? hx)
        ((try simp only [seval, go_sem]); repeat ((first | with_reducible refine vsI.id ?_ | with_reducible refine vcI_cond ?_); (try simp only [seval, go_sem])))
        (refine ⟨⟨by omega, by omega, hat⟩, ?_⟩; (try simp only [seval, go_sem]))
        (refine ldF.one _ (by first | exact .inl (byte_at hr (k := p.toNat) hx) | exact (byte_at hr (k := p.toNat) hx)) ?_; (try simp only [seval, go_sem]))
        refine ⟨by omega, ?_⟩
        ((try simp only [seval, go_sem]); repeat ((first | with_reducible refine vsI.id ?_ | with_reducible refine vcI_cond ?_); (try simp only [seval, go_sem])))
        (refine FinV.give 1000 0 2001 2000 rfl rfl rfl ?_); simp only [seval, go_sem, giveSt, subV, subC, subE, subL]
        (refine FinV.tf (Tf.pack 999 [1000] (by simp only [popL, look, del, Nat.reduceEqDiff, reduceCtorEq, if_true, if_false, reduceIte, Nat.succ_ne_self]; exact rfl) (by simp only [look, Nat.reduceEqDiff, reduceCtorEq, if_true, if_false, reduceIte])) ?_); dsimp only
        (((try simp only [seval, go_sem]); repeat ((first | with_reducible refine vsI.id ?_ | with_reducible refine vcI_cond ?_); (try simp only [seval, go_sem]))); refine FinV.own 999 rfl ?_; simp only [finE, finS, gt, look, SV.toV, SC.toV, allV, tupV, List.map_cons, List.map_nil, List.length_cons, List.length_nil, Nat.reduceAdd, Nat.reduceEqDiff, reduceCtorEq, if_true, if_false, reduceIte, Nat.succ_ne_self, true_and, List.getElem?_cons_zero, Nat.zero_add, Nat.add_zero])
        rw [wrap_in (by omega) (by omega), Int.tmod_eq_emod_of_nonneg (by omega)]
        exact ⟨_, rfl, Int.emod_nonneg _ (by omega), fun _ => Int.emod_lt_of_pos _ (by omega), by omega⟩
      · ((try simp only [seval, go_sem]); repeat ((first | with_reducible refine vsI.id ?_ | with_reducible refine vcI_cond ?_); (try simp only [seval, go_sem])))
        obtain ⟨q, rfl⟩ := Int.eq_ofNat_of_zero_le hp.1
        have hm1 : q % code.length < code.length := Nat.mod_lt _ hl0
        have hm2 : (q * 7 + 3) % code.length < code.length := Nat.mod_lt _ hl0
        have hq : q / code.length ≤ q := Nat.div_le_self _ _
        obtain ⟨x, hx⟩ : ∃ x, code[q % code.length]? = some x := ⟨_, List.getElem?_eq_getElem hm1⟩
        obtain ⟨y, hy⟩ : ∃ y, code[(q * 7 + 3) % code.length]? = some y := ⟨_, List.getElem?_eq_getElem hm2⟩
        have hx255 := hB x (List.mem_of_getElem? hx)
        have hy255 := hB y (List.mem_of_getElem? hy)
        have t1 : (q : Int).tmod (code.length : Int) = ((q % code.length : Nat) : Int) := rfl
        have t2 : (IntKind.i64.wrap (IntKind.i64.wrap ((q : Int) * 7) + 3)).tmod (code.length : Int) = (((q * 7 + 3) % code.length : Nat) : Int) := by
          rw [wrap_in (n := (q : Int) * 7) (by omega) (by omega), wrap_in (by omega) (by omega)]
          exact (show (((q * 7 + 3 : Nat) : Int)).tmod (code.length : Int) = _ from rfl)
        have t3 : (q : Int).tdiv (code.length : Int) = ((q / code.length : Nat) : Int) := rfl
        simp only [t1, t2, t3]
        refine ⟨by omega, ?_⟩
        (refine ⟨⟨by omega, by omega, hat⟩, ?_⟩; (try simp only [seval, go_sem]))
        (refine ldF.one _ (by first | exact .inl (byte_at hr hx) | exact (byte_at hr hx)) ?_; (try simp only [seval, go_sem]))
        ((try simp only [seval, go_sem]); repeat ((first | with_reducible refine vsI.id ?_ | with_reducible refine vcI_cond ?_); (try simp only [seval, go_sem])))
        simp only [t2]
        refine ⟨by omega, ?_⟩
        (refine ⟨⟨by omega, by omega, hat⟩, ?_⟩; (try simp only [seval, go_sem]))
        (refine ldF.one _ (by first | exact .inl (byte_at hr hy) | exact (byte_at hr hy)) ?_; (try simp only [seval, go_sem]))
        ((try simp only [seval, go_sem]); repeat ((first | with_reducible refine vsI.id ?_ | with_reducible refine vcI_cond ?_); (try simp only [seval, go_sem])))
        refine ⟨by omega, ?_⟩
        simp only [t3]
        ((try simp only [seval, go_sem]); repeat ((first | with_reducible refine vsI.id ?_ | with_reducible refine vcI_cond ?_); (try simp only [seval, go_sem])))
        refine ⟨by omega, ?_⟩
        ((try simp only [seval, go_sem]); repeat ((first | with_reducible refine vsI.id ?_ | with_reducible refine vcI_cond ?_); (try simp only [seval, go_sem])))
        (refine FinV.give 1000 0 2001 2000 rfl rfl rfl ?_); simp only [seval, go_sem, giveSt, subV, subC, subE, subL]
        (refine FinV.tf (Tf.pack 999 [1000] (by simp only [popL, look, del, Nat.reduceEqDiff, reduceCtorEq, if_true, if_false, reduceIte, Nat.succ_ne_self]; exact rfl) (by simp only [look, Nat.reduceEqDiff, reduceCtorEq, if_true, if_false, reduceIte])) ?_); dsimp only
        (((try simp only [seval, go_sem]); repeat ((first | with_reducible refine vsI.id ?_ | with_reducible refine vcI_cond ?_); (try simp only [seval, go_sem]))); refine FinV.own 999 rfl ?_; simp only [finE, finS, gt, look, SV.toV, SC.toV, allV, tupV, List.map_cons, List.map_nil, List.length_cons, List.length_nil, Nat.reduceAdd, Nat.reduceEqDiff, reduceCtorEq, if_true, if_false, reduceIte, Nat.succ_ne_self, true_and, List.getElem?_cons_zero, Nat.zero_add, Nat.add_zero])
        obtain ⟨x, rfl⟩ := Int.eq_ofNat_of_zero_le hx255.1
        obtain ⟨y, rfl⟩ := Int.eq_ofNat_of_zero_le hy255.1
        generalize hd : q / code.length = d at *
        have hX : IntKind.i64.wrap (IntKind.i64.wrap (IntKind.i64.wrap (IntKind.i64.wrap (IntKind.i64.wrap (x : Int) * 131) + IntKind.i64.wrap (IntKind.i64.wrap (y : Int) * 1117)) + IntKind.i64.wrap ((q : Int) * 29)) + IntKind.i64.wrap (IntKind.i64.wrap (d : Int) * 53)) = ((x * 131 + y * 1117 + q * 29 + d * 53 : Nat) : Int) := by
          simp (disch := omega) only [wrap_in]
          omega
        rw [hX]
        generalize hY : x * 131 + y * 1117 + q * 29 + d * 53 = Y
        have hYb : Y < 2 ^ 40 := by omega
        have h64 : (Y : Int).tdiv 64 = ((Y / 64 : Nat) : Int) := rfl
        rw [h64, wrap_in (by omega) (by omega), bits_xor_i64 Y (Y / 64) (by omega) (by omega)]
        obtain ⟨n', rfl⟩ := Int.eq_ofNat_of_zero_le (show 0 ≤ n by omega)
        exact ⟨((Y ^^^ (Y / 64)) % n' : Nat), rfl, by omega, fun _ => by have := Nat.mod_lt (Y ^^^ (Y / 64)) (show 0 < n' by omega); omega, by omega⟩
end Go.Proofs.YtpjaidjnamngaaaGreat
namespace Go.Proofs.YtpjaidjnamngaaaGreat
set_option linter.unusedVariables false
set_option linter.unusedSimpArgs false
open Go.RowKit
set_option maxRecDepth 100000
set_option maxHeartbeats 1000000
theorem FinV.giveN {s : St} {fr : List FR} {R : Value → Zc → Asrt → Prop} (k j m : Nat) {e : Nat} {cs : List SC} {vs : List Value} (hk : look j s.L = some (.cells e cs)) (hv : allV cs = some vs) (h : ∀ b, FinV fr (giveSt s k j m b e vs) R) : FinV fr s R := fun C ρ a w hs => by
  obtain ⟨b, _, hs'⟩ := hs.give k j m hk hv
  exact h b C ρ a w hs'
theorem open_s (code : List Int) (v : Value) (z : Zc) (h : By z code v) (hl : code.length ≤ 1000000000) : Spec Tryz.prog 31 [v] z emp fun u z' A' => ∃ b A c cd, u = .pointer (some ⟨b, 0, none⟩) ∧ A' = starL [rdA b A cd.length c 0] ∧ cd.length ≤ 2000 ∧ By z' cd (.slice A cd.length c) := by
  obtain ⟨A, c, rfl, hc, hB, hr⟩ := h.form
  (refine spec_enter0 Tryz.func31 ic31_ok fr31_ok Tryz.ntmps31 ?_; simp only [seval, go_sem, ic31, fr31])
  ((try simp only [seval, go_sem]); repeat ((first | with_reducible refine vsI.id ?_ | with_reducible refine vcI_cond ?_); (try simp only [seval, go_sem])))
  (with_reducible refine condI.split (fun hg => ?_) (fun hg => ?_) <;> (try simp only [hg]) <;> (try simp only [seval, go_sem]))
  · have h2 : 2000 < code.length := by have := of_decide_eq_true hg; omega
    ((try simp only [seval, go_sem]); repeat ((first | with_reducible refine vsI.id ?_ | with_reducible refine vcI_cond ?_); (try simp only [seval, go_sem])))
    refine ⟨by omega, ?_⟩; ((try simp only [seval, go_sem]); repeat ((first | with_reducible refine vsI.id ?_ | with_reducible refine vcI_cond ?_); (try simp only [seval, go_sem])))
    refine FinV.giveN 90 0 91 rfl rfl fun b => ?_
    simp only [seval, go_sem, giveSt, subV, subC, subE, subL]
    (refine FinV.tf (Tf.pack 92 [90] (by simp only [popL, look, del, Nat.reduceEqDiff, reduceCtorEq, if_true, if_false, reduceIte, Nat.succ_ne_self]; exact rfl) (by simp only [look, Nat.reduceEqDiff, reduceCtorEq, if_true, if_false, reduceIte])) ?_); dsimp only
    (((try simp only [seval, go_sem]); repeat ((first | with_reducible refine vsI.id ?_ | with_reducible refine vcI_cond ?_); (try simp only [seval, go_sem]))); refine FinV.own 92 rfl ?_; simp only [finE, finS, gt, look, SV.toV, SC.toV, allV, tupV, List.map_cons, List.map_nil, List.length_cons, List.length_nil, Nat.reduceAdd, Nat.reduceEqDiff, reduceCtorEq, if_true, if_false, reduceIte, Nat.succ_ne_self, true_and, List.getElem?_cons_zero, Nat.zero_add, Nat.add_zero])
    have hk : By z (code.take 2000) (.slice A 2000 c) := Sl.take h (by omega) (by omega)
    have hk2 : (code.take 2000).length = 2000 := by simp; omega
    exact ⟨b, A, c, code.take 2000, rfl, by rw [hk2], by omega, by rw [hk2]; exact hk⟩
  · have h2 : code.length ≤ 2000 := by have := of_decide_eq_false hg; omega
    ((try simp only [seval, go_sem]); repeat ((first | with_reducible refine vsI.id ?_ | with_reducible refine vcI_cond ?_); (try simp only [seval, go_sem])))
    refine FinV.giveN 90 0 91 rfl rfl fun b => ?_
    simp only [seval, go_sem, giveSt, subV, subC, subE, subL]
    (refine FinV.tf (Tf.pack 92 [90] (by simp only [popL, look, del, Nat.reduceEqDiff, reduceCtorEq, if_true, if_false, reduceIte, Nat.succ_ne_self]; exact rfl) (by simp only [look, Nat.reduceEqDiff, reduceCtorEq, if_true, if_false, reduceIte])) ?_); dsimp only
    (((try simp only [seval, go_sem]); repeat ((first | with_reducible refine vsI.id ?_ | with_reducible refine vcI_cond ?_); (try simp only [seval, go_sem]))); refine FinV.own 92 rfl ?_; simp only [finE, finS, gt, look, SV.toV, SC.toV, allV, tupV, List.map_cons, List.map_nil, List.length_cons, List.length_nil, Nat.reduceAdd, Nat.reduceEqDiff, reduceCtorEq, if_true, if_false, reduceIte, Nat.succ_ne_self, true_and, List.getElem?_cons_zero, Nat.zero_add, Nat.add_zero])
    exact ⟨b, A, c, code, rfl, rfl, h2, h⟩
theorem odd0 (b : Nat) (A : Option Addr) (n c : Nat) (p : Int) (z : Zc) : Spec Tryz.prog 80 [.pointer (some ⟨b, 0, none⟩), .int .i64 0] z (starL [rdA b A n c p]) fun v z' A' => v = .bool false ∧ A' = starL [rdA b A n c p] ∧ z = z' := by
  (refine spec_enter1 Tryz.func80 ic80_ok fr80_ok Tryz.ntmps80 ?_; simp only [seval, go_sem, ic80, fr80])
  ((try simp only [seval, go_sem]); repeat ((first | with_reducible refine vsI.id ?_ | with_reducible refine vcI_cond ?_); (try simp only [seval, go_sem])))
  try simp only [seval, go_sem, show decide ((0 : Int) > 0) = false from rfl]
  ((try simp only [seval, go_sem]); repeat ((first | with_reducible refine vsI.id ?_ | with_reducible refine vcI_cond ?_); (try simp only [seval, go_sem])))
  (((try simp only [seval, go_sem]); repeat ((first | with_reducible refine vsI.id ?_ | with_reducible refine vcI_cond ?_); (try simp only [seval, go_sem]))); refine FinV.own 1000 rfl ?_; simp only [finE, finS, gt, look, SV.toV, SC.toV, allV, tupV, List.map_cons, List.map_nil, List.length_cons, List.length_nil, Nat.reduceAdd, Nat.reduceEqDiff, reduceCtorEq, if_true, if_false, reduceIte, Nat.succ_ne_self, true_and, List.getElem?_cons_zero, Nat.zero_add, Nat.add_zero])
structure BytS where
  k : Nat
  out : List Int
  v : Value
  p : Int
theorem bytes_s (b : Nat) (A : Option Addr) (c : Nat) (code : List Int) (p n : Int) (z : Zc) (hb : By z code (.slice A code.length c)) (hp : 0 ≤ p ∧ p ≤ 900000) (hl : code.length ≤ 2000) (hn : 0 ≤ n ∧ n ≤ 1000) :
    Spec Tryz.prog 82 [.pointer (some ⟨b, 0, none⟩), .int .i64 n] z (starL [rdA b A code.length c p]) fun v z' A' => ∃ (out : List Int) (B : Option Addr) (k : Nat) (p' : Int), v = .slice B out.length k ∧ A' = starL [rdA b A code.length c p'] ∧ By z' out (.slice B out.length k) ∧ (out.length : Int) ≤ n ∧ p ≤ p' ∧ p' ≤ p + 1 + 3 * n := by
  (refine spec_enter1 Tryz.func82 ic82_ok fr82_ok Tryz.ntmps82 ?_; simp only [seval, go_sem, ic82, fr82])
  ((try simp only [seval, go_sem]); repeat ((first | with_reducible refine vsI.id ?_ | with_reducible refine vcI_cond ?_); (try simp only [seval, go_sem])))
  have w1 : IntKind.i64.wrap (n + 1) = n + 1 := wrap_in (by omega) (by omega)
  simp only [w1]
  (try with_reducible refine callM.toT ?_); refine callW 1000 (pick_s b A c code p (n + 1) z hb (by omega) hl (by omega)) rfl rfl rfl rfl ?_; rintro v z1 A' hz1 ⟨x, rfl, rfl, rfl, hx0, hx1, hx2⟩; (try simp only [seval, go_sem]); ((try simp only [seval, go_sem]); repeat ((first | with_reducible refine vsI.id ?_ | with_reducible refine vcI_cond ?_); (try simp only [seval, go_sem])))
  obtain ⟨k0, rfl⟩ := Int.eq_ofNat_of_zero_le hx0
  refine loopV.toRow 90 0 rfl rfl (m := 0) (sz := 1) rfl (by omega) (fun b0 => ?_)
  simp only [seval, go_sem, rowSt, subV, subC, subE, subL]
  refine loop_upd (ι := BytS) (n := 1) (fun s => s.k + s.out.length = k0 ∧ Bys s.out ∧ s.p = p + 1 + 3 * s.out.length) (fun s => [(6, .c (.v (.int .i64 s.k))), (5, .c (.v s.v))]) (fun s => [(1000, .own (starL [rdA b A code.length c s.p])), (90, .own (rowA 5 1 s.v s.out.length (bc s.out)))]) (fun _ => z) (fun s => s.k) ⟨k0, [], .slice (some ⟨b0, 0, none⟩) 0 0, p + 1⟩ ⟨by simp, by simp [Bys], by simp⟩ (by (simp only [wrI, wrR, anyL, st, List.append_nil, List.nil_append, List.cons_append]); exact rfl) ?_ ?_
  · (refine Le.of ?_ ?_ rfl ?_ ⟨rfl, rfl⟩; rotate_left; (repeat (first | exact trivial | refine ⟨rfl, ?_⟩)); (first | exact Nat.le_refl _ | decide | (dsimp only; omega)); (simp (disch := omega) only [LeT, updL, st, reduceCtorEq, true_or, or_true, false_or, and_true, true_and, SV.c.injEq, SC.v.injEq, Value.int.injEq, Value.slice.injEq, wrap_in, Int.natCast_add, Int.natCast_one, Int.natCast_zero, Int.cast_ofNat_Int]) <;> (try (repeat' constructor)) <;> (first | rfl | omega))
  · rintro ⟨k, out, v, p1⟩ ⟨hk, hB, hp1⟩
    dsimp only at *
    ((try simp only [seval, go_sem]); repeat ((first | with_reducible refine vsI.id ?_ | with_reducible refine vcI_cond ?_); (try simp only [seval, go_sem])))
    (with_reducible refine condI.split (fun hg => ?_) (fun hg => ?_) <;> (try simp only [hg]) <;> (try simp only [seval, go_sem]))
    · have hk0 : 0 < k := by have := of_decide_eq_true hg; omega
      ((try simp only [seval, go_sem]); repeat ((first | with_reducible refine vsI.id ?_ | with_reducible refine vcI_cond ?_); (try simp only [seval, go_sem])))
      (try with_reducible refine callM.toT ?_); refine callW 1000 (pick_s b A c code p1 256 z hb (by omega) hl (by omega)) rfl rfl rfl rfl ?_; rintro v1 z1 A' hz1 ⟨y1, rfl, rfl, rfl, hy1, _, _⟩; (try simp only [seval, go_sem]); ((try simp only [seval, go_sem]); repeat ((first | with_reducible refine vsI.id ?_ | with_reducible refine vcI_cond ?_); (try simp only [seval, go_sem])))
      (try with_reducible refine callM.toT ?_); refine callW 1000 (pick_s b A c code (p1 + 1) 4 z hb (by omega) hl (by omega)) rfl rfl rfl rfl ?_; rintro v2 z1 A' hz2 ⟨y2, rfl, rfl, rfl, hy2, _, _⟩; (try simp only [seval, go_sem]); ((try simp only [seval, go_sem]); repeat ((first | with_reducible refine vsI.id ?_ | with_reducible refine vcI_cond ?_); (try simp only [seval, go_sem])))
      (try with_reducible refine callM.toT ?_); refine callW 1000 (pick_s b A c code (p1 + 1 + 1) 3 z hb (by omega) hl (by omega)) rfl rfl rfl rfl ?_; rintro v3 z1 A' hz3 ⟨y3, rfl, rfl, rfl, hy3, hy3', _⟩; (try simp only [seval, go_sem]); ((try simp only [seval, go_sem]); repeat ((first | with_reducible refine vsI.id ?_ | with_reducible refine vcI_cond ?_); (try simp only [seval, go_sem])))
      have hw2 : IntKind.i64.wrap ((k : Int) - 1) = ((k - 1 : Nat) : Int) := by rw [wrap_in (by omega) (by omega)]; omega
      refine ⟨⟨hy3, by omega⟩, by omega, ?_⟩
      have hy : y3 = 0 ∨ y3 = 1 ∨ y3 = 2 := by have := hy3' (by omega); omega
      have hu8 : ∀ y : Int, 0 ≤ IntKind.u8.wrap y ∧ IntKind.u8.wrap y ≤ 255 := fun y => by rw [IntKind.wrap_u8]; omega
      rcases hy with rfl | rfl | rfl
      · simp only [seval, go_sem, Int.reduceToNat]
        ((try simp only [seval, go_sem]); repeat ((first | with_reducible refine vsI.id ?_ | with_reducible refine vcI_cond ?_); (try simp only [seval, go_sem])))
        (try with_reducible refine appM.toT ?_); (refine appM_new 90 atyB rfl rfl rfl rfl rfl rfl rfl (by simp [Value.oneCell']) (by omega) (fun v4 => ?_)); simp only [seval, go_sem]; ((try simp only [seval, go_sem]); repeat ((first | with_reducible refine vsI.id ?_ | with_reducible refine vcI_cond ?_); (try simp only [seval, go_sem])))
        simp only [hw2]
        refine ⟨⟨k - 1, out ++ [IntKind.u8.wrap y1], v4, p1 + 1 + 1 + 1⟩, ⟨by simp; omega, Bys.append hB (fun x hx => by rw [List.mem_singleton.1 hx]; exact hu8 _), by simp; omega⟩, by dsimp only; omega, ?_⟩
        rw [show out.length + 1 = (out ++ [IntKind.u8.wrap y1]).length by simp, show bc out ++ [Value.int .u8 (IntKind.u8.wrap y1)] = bc (out ++ [IntKind.u8.wrap y1]) by simp [bc]]
        (refine Le.of ?_ ?_ rfl ?_ ⟨rfl, rfl⟩; rotate_left; (repeat (first | exact trivial | refine ⟨rfl, ?_⟩)); (first | exact Nat.le_refl _ | decide | (dsimp only; omega)); (simp (disch := omega) only [LeT, updL, st, reduceCtorEq, true_or, or_true, false_or, and_true, true_and, SV.c.injEq, SC.v.injEq, Value.int.injEq, Value.slice.injEq, wrap_in, Int.natCast_add, Int.natCast_one, Int.natCast_zero, Int.cast_ofNat_Int]) <;> (try (repeat' constructor)) <;> (first | rfl | omega))
      · simp only [seval, go_sem, Int.reduceToNat]
        ((try simp only [seval, go_sem]); repeat ((first | with_reducible refine vsI.id ?_ | with_reducible refine vcI_cond ?_); (try simp only [seval, go_sem])))
        (try with_reducible refine appM.toT ?_); (refine appM_new 90 atyB rfl rfl rfl rfl rfl rfl rfl (by simp [Value.oneCell']) (by omega) (fun v4 => ?_)); simp only [seval, go_sem]; ((try simp only [seval, go_sem]); repeat ((first | with_reducible refine vsI.id ?_ | with_reducible refine vcI_cond ?_); (try simp only [seval, go_sem])))
        simp only [hw2]
        refine ⟨⟨k - 1, out ++ [IntKind.u8.wrap y2], v4, p1 + 1 + 1 + 1⟩, ⟨by simp; omega, Bys.append hB (fun x hx => by rw [List.mem_singleton.1 hx]; exact hu8 _), by simp; omega⟩, by dsimp only; omega, ?_⟩
        rw [show out.length + 1 = (out ++ [IntKind.u8.wrap y2]).length by simp, show bc out ++ [Value.int .u8 (IntKind.u8.wrap y2)] = bc (out ++ [IntKind.u8.wrap y2]) by simp [bc]]
        (refine Le.of ?_ ?_ rfl ?_ ⟨rfl, rfl⟩; rotate_left; (repeat (first | exact trivial | refine ⟨rfl, ?_⟩)); (first | exact Nat.le_refl _ | decide | (dsimp only; omega)); (simp (disch := omega) only [LeT, updL, st, reduceCtorEq, true_or, or_true, false_or, and_true, true_and, SV.c.injEq, SC.v.injEq, Value.int.injEq, Value.slice.injEq, wrap_in, Int.natCast_add, Int.natCast_one, Int.natCast_zero, Int.cast_ofNat_Int]) <;> (try (repeat' constructor)) <;> (first | rfl | omega))
      · simp only [seval, go_sem, Int.reduceToNat]
        ((try simp only [seval, go_sem]); repeat ((first | with_reducible refine vsI.id ?_ | with_reducible refine vcI_cond ?_); (try simp only [seval, go_sem])))
        (try with_reducible refine appM.toT ?_); (refine appM_new 90 atyB rfl rfl rfl rfl rfl rfl rfl (by simp [Value.oneCell']) (by omega) (fun v4 => ?_)); simp only [seval, go_sem]; ((try simp only [seval, go_sem]); repeat ((first | with_reducible refine vsI.id ?_ | with_reducible refine vcI_cond ?_); (try simp only [seval, go_sem])))
        simp only [hw2]
        refine ⟨⟨k - 1, out ++ [IntKind.u8.wrap 255], v4, p1 + 1 + 1 + 1⟩, ⟨by simp; omega, Bys.append hB (fun x hx => by rw [List.mem_singleton.1 hx]; exact hu8 _), by simp; omega⟩, by dsimp only; omega, ?_⟩
        rw [show out.length + 1 = (out ++ [IntKind.u8.wrap 255]).length by simp, show bc out ++ [Value.int .u8 (IntKind.u8.wrap 255)] = bc (out ++ [IntKind.u8.wrap 255]) by simp [bc]]
        (refine Le.of ?_ ?_ rfl ?_ ⟨rfl, rfl⟩; rotate_left; (repeat (first | exact trivial | refine ⟨rfl, ?_⟩)); (first | exact Nat.le_refl _ | decide | (dsimp only; omega)); (simp (disch := omega) only [LeT, updL, st, reduceCtorEq, true_or, or_true, false_or, and_true, true_and, SV.c.injEq, SC.v.injEq, Value.int.injEq, Value.slice.injEq, wrap_in, Int.natCast_add, Int.natCast_one, Int.natCast_zero, Int.cast_ofNat_Int]) <;> (try (repeat' constructor)) <;> (first | rfl | omega))
    · have hk0 : k = 0 := by have := of_decide_eq_false hg; omega
      ((try simp only [seval, go_sem]); repeat ((first | with_reducible refine vsI.id ?_ | with_reducible refine vcI_cond ?_); (try simp only [seval, go_sem])))
      (refine FinV.frzR 90 rfl (fun A4 c4 z4 hv4 hc4 hz4 hr4 => ?_)); dsimp only at hz4; (try subst hv4); simp only [seval, go_sem]
      (((try simp only [seval, go_sem]); repeat ((first | with_reducible refine vsI.id ?_ | with_reducible refine vcI_cond ?_); (try simp only [seval, go_sem]))); refine FinV.own 1000 rfl ?_; simp only [finE, finS, gt, look, SV.toV, SC.toV, allV, tupV, List.map_cons, List.map_nil, List.length_cons, List.length_nil, Nat.reduceAdd, Nat.reduceEqDiff, reduceCtorEq, if_true, if_false, reduceIte, Nat.succ_ne_self, true_and, List.getElem?_cons_zero, Nat.zero_add, Nat.add_zero])
      exact ⟨out, A4, c4, p1, rfl, rfl, By.mk hc4 hB hr4, by omega, by omega, by omega⟩
end Go.Proofs.YtpjaidjnamngaaaGreat
namespace Go.Proofs.YtpjaidjnamngaaaGreat
set_option linter.unusedVariables false
set_option linter.unusedSimpArgs false
open Go.RowKit
set_option maxRecDepth 100000
set_option maxHeartbeats 1000000
/-- What may be drawn for a link that keeps all. -/
def EvC (ev : Evt) : Prop := (1 ≤ ev.kind ∧ ev.kind ≤ 7) ∧ (ev.who = 0 ∨ ev.who = 1) ∧ ev.data.length ≤ 100
theorem event_s (b : Nat) (A : Option Addr) (cc : Nat) (code : List Int) (p : Int) (c : Cfg) (link : Int) (m : WM) (z : Zc) (hb : By z code (.slice A code.length cc)) (hp : 0 ≤ p ∧ p ≤ 800000) (hl : code.length ≤ 2000) (hm : 1 ≤ c.mtu ∧ c.mtu ≤ 24) :
    Spec Tryz.prog 60 [.pointer (some ⟨b, 0, none⟩), wldV c link m, .bool false, .bool false] z (starL [rdA b A code.length cc p]) fun v z' A' => ∃ (ev : Evt) (B : Option Addr) (n k : Nat) (p' : Int), v = vEvt ev (.slice B n k) ∧ A' = starL [rdA b A code.length cc p'] ∧ By z' ev.data (.slice B n k) ∧ EvC ev ∧ p ≤ p' ∧ p' ≤ p + 200 := by
  (refine spec_enter1 Tryz.func60 ic60_ok fr60_ok Tryz.ntmps60 ?_; simp only [seval, go_sem, ic60, fr60])
  ((try simp only [seval, go_sem]); repeat ((first | with_reducible refine vsI.id ?_ | with_reducible refine vcI_cond ?_); (try simp only [seval, go_sem])))
  (try with_reducible refine callM.toT ?_); refine callW 1000 (pick_s b A cc code p 2 z hb (by omega) hl (by omega)) rfl rfl rfl rfl ?_; rintro v1 z1 A' hz1 ⟨x, rfl, rfl, rfl, hx, hx2, _⟩; (try simp only [seval, go_sem]); ((try simp only [seval, go_sem]); repeat ((first | with_reducible refine vsI.id ?_ | with_reducible refine vcI_cond ?_); (try simp only [seval, go_sem])))
  (try with_reducible refine callM.toT ?_); refine callW 1000 (pick_s b A cc code (p + 1) 20 z hb (by omega) hl (by omega)) rfl rfl rfl rfl ?_; rintro v2 z1 A' hz2 ⟨y, rfl, rfl, rfl, hy, hy2, _⟩; (try simp only [seval, go_sem]); ((try simp only [seval, go_sem]); repeat ((first | with_reducible refine vsI.id ?_ | with_reducible refine vcI_cond ?_); (try simp only [seval, go_sem])))
  have hw : x = 0 ∨ x = 1 := by have := hx2 (by omega); omega
  (try simp only [seval, go_sem]); repeat' (first | (with_reducible refine vsI.id ?_; (try simp only [seval, go_sem])) | (with_reducible refine vcI_cond ?_; (try simp only [seval, go_sem])) | (with_reducible refine guardR.split (fun hg => ?_) (fun hg => ?_) <;> (try simp only [hg]) <;> simp only [seval, go_sem]) | (with_reducible refine condI.split (fun hg => ?_) (fun hg => ?_) <;> (try simp only [hg]) <;> (try simp only [seval, go_sem])) | (with_reducible refine callM.toT ?_))
  all_goals try ((((try simp only [seval, go_sem]); repeat ((first | with_reducible refine vsI.id ?_ | with_reducible refine vcI_cond ?_); (try simp only [seval, go_sem]))); refine FinV.own 1000 rfl ?_; simp only [finE, finS, gt, look, SV.toV, SC.toV, allV, tupV, List.map_cons, List.map_nil, List.length_cons, List.length_nil, Nat.reduceAdd, Nat.reduceEqDiff, reduceCtorEq, if_true, if_false, reduceIte, Nat.succ_ne_self, true_and, List.getElem?_cons_zero, Nat.zero_add, Nat.add_zero]); first
    | exact ⟨⟨2, x, 0, 0, []⟩, none, 0, 0, _, rfl, rfl, Sl.nil _ _ _, ⟨by simp, hw, by simp⟩, by omega, by omega⟩
    | exact ⟨⟨3, x, 0, 0, []⟩, none, 0, 0, _, rfl, rfl, Sl.nil _ _ _, ⟨by simp, hw, by simp⟩, by omega, by omega⟩
    | exact ⟨⟨5, x, 0, 0, []⟩, none, 0, 0, _, rfl, rfl, Sl.nil _ _ _, ⟨by simp, hw, by simp⟩, by omega, by omega⟩
    | exact ⟨⟨6, x, 0, 0, []⟩, none, 0, 0, _, rfl, rfl, Sl.nil _ _ _, ⟨by simp, hw, by simp⟩, by omega, by omega⟩
    | exact ⟨⟨7, x, 0, 0, []⟩, none, 0, 0, _, rfl, rfl, Sl.nil _ _ _, ⟨by simp, hw, by simp⟩, by omega, by omega⟩)
  · (try with_reducible refine callM.toT ?_); refine callW 1000 (pick_s b A cc code (p + 1 + 1) 2 z hb (by omega) hl (by omega)) rfl rfl rfl rfl ?_; rintro v3 z1 A' hz3 ⟨u, rfl, rfl, rfl, hu, hu2, _⟩; (try simp only [seval, go_sem]); ((try simp only [seval, go_sem]); repeat ((first | with_reducible refine vsI.id ?_ | with_reducible refine vcI_cond ?_); (try simp only [seval, go_sem])))
    have hu1 := hu2 (by omega)
    have w1 : IntKind.i64.wrap (c.mtu + u) = c.mtu + u := wrap_in (by omega) (by omega)
    simp only [w1]
    (try with_reducible refine callM.toT ?_); refine callW 1000 (bytes_s b A cc code (p + 1 + 1 + 1) (c.mtu + u) z hb (by omega) hl (by omega)) rfl rfl rfl rfl ?_; rintro v4 z4 A' hz4 ⟨out, B, k, p', rfl, rfl, hby, hlen, hp1, hp2⟩; (try simp only [seval, go_sem]); ((try simp only [seval, go_sem]); repeat ((first | with_reducible refine vsI.id ?_ | with_reducible refine vcI_cond ?_); (try simp only [seval, go_sem])))
    (((try simp only [seval, go_sem]); repeat ((first | with_reducible refine vsI.id ?_ | with_reducible refine vcI_cond ?_); (try simp only [seval, go_sem]))); refine FinV.own 1000 rfl ?_; simp only [finE, finS, gt, look, SV.toV, SC.toV, allV, tupV, List.map_cons, List.map_nil, List.length_cons, List.length_nil, Nat.reduceAdd, Nat.reduceEqDiff, reduceCtorEq, if_true, if_false, reduceIte, Nat.succ_ne_self, true_and, List.getElem?_cons_zero, Nat.zero_add, Nat.add_zero])
    exact ⟨⟨1, x, 0, 0, out⟩, B, out.length, k, p', rfl, rfl, hby, ⟨by simp, hw, by show out.length ≤ 100; omega⟩, by omega, by omega⟩
  · (try with_reducible refine callM.toT ?_); refine callW 1000 (pick_s b A cc code (p + 1 + 1) 2 z hb (by omega) hl (by omega)) rfl rfl rfl rfl ?_; rintro v3 z1 A' hz3 ⟨u, rfl, rfl, rfl, hu, hu2, _⟩; (try simp only [seval, go_sem]); ((try simp only [seval, go_sem]); repeat ((first | with_reducible refine vsI.id ?_ | with_reducible refine vcI_cond ?_); (try simp only [seval, go_sem])))
    have hu1 := hu2 (by omega)
    have w1 : IntKind.i64.wrap (c.mtu + u) = c.mtu + u := wrap_in (by omega) (by omega)
    simp only [w1]
    (try with_reducible refine callM.toT ?_); refine callW 1000 (bytes_s b A cc code (p + 1 + 1 + 1) (c.mtu + u) z hb (by omega) hl (by omega)) rfl rfl rfl rfl ?_; rintro v4 z4 A' hz4 ⟨out, B, k, p', rfl, rfl, hby, hlen, hp1, hp2⟩; (try simp only [seval, go_sem]); ((try simp only [seval, go_sem]); repeat ((first | with_reducible refine vsI.id ?_ | with_reducible refine vcI_cond ?_); (try simp only [seval, go_sem])))
    (((try simp only [seval, go_sem]); repeat ((first | with_reducible refine vsI.id ?_ | with_reducible refine vcI_cond ?_); (try simp only [seval, go_sem]))); refine FinV.own 1000 rfl ?_; simp only [finE, finS, gt, look, SV.toV, SC.toV, allV, tupV, List.map_cons, List.map_nil, List.length_cons, List.length_nil, Nat.reduceAdd, Nat.reduceEqDiff, reduceCtorEq, if_true, if_false, reduceIte, Nat.succ_ne_self, true_and, List.getElem?_cons_zero, Nat.zero_add, Nat.add_zero])
    exact ⟨⟨1, x, 0, 0, out⟩, B, out.length, k, p', rfl, rfl, hby, ⟨by simp, hw, by show out.length ≤ 100; omega⟩, by omega, by omega⟩
  · (try with_reducible refine callM.toT ?_); refine callW 1000 (pick_s b A cc code (p + 1 + 1) 2 z hb (by omega) hl (by omega)) rfl rfl rfl rfl ?_; rintro v3 z1 A' hz3 ⟨u, rfl, rfl, rfl, hu, hu2, _⟩; (try simp only [seval, go_sem]); ((try simp only [seval, go_sem]); repeat ((first | with_reducible refine vsI.id ?_ | with_reducible refine vcI_cond ?_); (try simp only [seval, go_sem])))
    have hu1 := hu2 (by omega)
    have w1 : IntKind.i64.wrap (c.mtu + u) = c.mtu + u := wrap_in (by omega) (by omega)
    simp only [w1]
    (try with_reducible refine callM.toT ?_); refine callW 1000 (bytes_s b A cc code (p + 1 + 1 + 1) (c.mtu + u) z hb (by omega) hl (by omega)) rfl rfl rfl rfl ?_; rintro v4 z4 A' hz4 ⟨out, B, k, p', rfl, rfl, hby, hlen, hp1, hp2⟩; (try simp only [seval, go_sem]); ((try simp only [seval, go_sem]); repeat ((first | with_reducible refine vsI.id ?_ | with_reducible refine vcI_cond ?_); (try simp only [seval, go_sem])))
    (((try simp only [seval, go_sem]); repeat ((first | with_reducible refine vsI.id ?_ | with_reducible refine vcI_cond ?_); (try simp only [seval, go_sem]))); refine FinV.own 1000 rfl ?_; simp only [finE, finS, gt, look, SV.toV, SC.toV, allV, tupV, List.map_cons, List.map_nil, List.length_cons, List.length_nil, Nat.reduceAdd, Nat.reduceEqDiff, reduceCtorEq, if_true, if_false, reduceIte, Nat.succ_ne_self, true_and, List.getElem?_cons_zero, Nat.zero_add, Nat.add_zero])
    exact ⟨⟨1, x, 0, 0, out⟩, B, out.length, k, p', rfl, rfl, hby, ⟨by simp, hw, by show out.length ≤ 100; omega⟩, by omega, by omega⟩
  · (try with_reducible refine callM.toT ?_); refine callW 1000 (pick_s b A cc code (p + 1 + 1) 2 z hb (by omega) hl (by omega)) rfl rfl rfl rfl ?_; rintro v3 z1 A' hz3 ⟨u, rfl, rfl, rfl, hu, hu2, _⟩; (try simp only [seval, go_sem]); ((try simp only [seval, go_sem]); repeat ((first | with_reducible refine vsI.id ?_ | with_reducible refine vcI_cond ?_); (try simp only [seval, go_sem])))
    (try with_reducible refine callM.toT ?_); refine callW 1000 (pick_s b A cc code (p + 1 + 1 + 1) 2 z hb (by omega) hl (by omega)) rfl rfl rfl rfl ?_; rintro v4 z1 A' hz4 ⟨u', rfl, rfl, rfl, hu', hu2', _⟩; (try simp only [seval, go_sem]); ((try simp only [seval, go_sem]); repeat ((first | with_reducible refine vsI.id ?_ | with_reducible refine vcI_cond ?_); (try simp only [seval, go_sem])))
    (((try simp only [seval, go_sem]); repeat ((first | with_reducible refine vsI.id ?_ | with_reducible refine vcI_cond ?_); (try simp only [seval, go_sem]))); refine FinV.own 1000 rfl ?_; simp only [finE, finS, gt, look, SV.toV, SC.toV, allV, tupV, List.map_cons, List.map_nil, List.length_cons, List.length_nil, Nat.reduceAdd, Nat.reduceEqDiff, reduceCtorEq, if_true, if_false, reduceIte, Nat.succ_ne_self, true_and, List.getElem?_cons_zero, Nat.zero_add, Nat.add_zero])
    exact ⟨⟨4, x, 0, _, []⟩, none, 0, 0, _, rfl, rfl, Sl.nil _ _ _, ⟨by simp, hw, by simp⟩, by omega, by omega⟩
end Go.Proofs.YtpjaidjnamngaaaGreat
namespace Go.Proofs.YtpjaidjnamngaaaGreat
set_option linter.unusedVariables false
set_option linter.unusedSimpArgs false
open Go.RowKit
set_option maxRecDepth 100000
set_option maxHeartbeats 1000000
mutual
def roundsV (P : Program) (ic : IC) (K : Exit → St → Prop) : Nat → St → Prop
  | 0, _ => False
  | n + 1, s => vcI P ic s (roundK P ic K n)
def roundK (P : Program) (ic : IC) (K : Exit → St → Prop) : Nat → Exit → St → Prop
  | n, .normal, s => roundsV P ic K n s
  | _, e, s => K e s
end
section
variable {P : Program} {ic : IC} {K : Exit → St → Prop} {s : St}
theorem roundsV_succ {n : Nat} : roundsV P ic K (n + 1) s = vcI P ic s (roundK P ic K n) := by rw [roundsV]
theorem roundK_normal {n : Nat} : roundK P ic K n .normal s = roundsV P ic K n s := by rw [roundK]
theorem roundK_exit {n x : Nat} : roundK P ic K n (.exit x) s = K (.exit x) s := by rw [roundK]; simp
theorem roundK_ret {n : Nat} : roundK P ic K n .ret s = K .ret s := by rw [roundK]; simp
theorem loopV.rounds (n : Nat) (h : roundsV P ic K n s) : loopV P ic s K := fun pl c hc C ρ a w hs => by
  refine wp_loop_rounds n ?_
  induction n generalizing s ρ a w with
  | zero => rw [roundsV] at h; exact h.elim
  | succ n ih =>
    rw [roundsV_succ] at h
    rw [rounds_succ]
    refine wp_mono (vcI_sound c ic hc s _ C ρ a w h hs) ?_
    rintro e a' w' ⟨hp, s', ρ', hk, hs'⟩
    cases e with
    | normal => rw [roundK_normal] at hk; exact ih hk ρ' a' w' hs'
    | exit id => rw [roundK_exit] at hk; exact ⟨hp, s', ρ', hk, hs'⟩
    | ret => rw [roundK_ret] at hk; exact ⟨hp, s', ρ', hk, hs'⟩
    | goto l => rw [roundK] at hk; exact ⟨hp, s', ρ', hk, hs'⟩; simp
    | panic c => exact hp.elim
    | outgrown => exact hp.elim
end
end Go.Proofs.YtpjaidjnamngaaaGreat
namespace Go.Proofs.YtpjaidjnamngaaaGreat
set_option linter.unusedVariables false
set_option linter.unusedSimpArgs false
open Go.RowKit
set_option maxRecDepth 100000
set_option maxHeartbeats 1000000
theorem atyE : AppTy Tryz.prog 70 78 28 := AppTy.of (by kernel_rfl)
theorem atyN : AppTy Tryz.prog 71 79 1 := AppTy.of (by kernel_rfl)
theorem Tf.addE {s : St} (k : Nat) (hk : look k s.L = none) : Tf s ⟨s.t, (k, .own (starL [])) :: s.L, s.z, s.n⟩ :=
  Tf.mk' (fun {ρ w F} hh => ⟨fun _ => False, F, fun _ h => h, hh, fun _ h => h.elim, fun b => by simp⟩) fun {j e cs} hj => by
    by_cases e' : k = j
    · subst e'; rw [hk] at hj; cases hj
    · show (if k = j then _ else _) = _
      rw [if_neg e']; exact hj
theorem new_s (c : Cfg) (z : Zc) (hc : cfgOk c = true) : Spec Tryz.prog 59 [vCfg c] z emp (WldH c (wldNew c)) := by
  (refine spec_enter0 Tryz.func59 ic59_ok fr59_ok Tryz.ntmps59 ?_; simp only [seval, go_sem, ic59, fr59])
  ((try simp only [seval, go_sem]); repeat ((first | with_reducible refine vsI.id ?_ | with_reducible refine vcI_cond ?_); (try simp only [seval, go_sem])))
  (try with_reducible refine callM.toT ?_); refine callP (cfgok_s c z) rfl rfl ?_; rintro _ _ - ⟨rfl, rfl⟩; (try simp only [seval, go_sem]); ((try simp only [seval, go_sem]); repeat ((first | with_reducible refine vsI.id ?_ | with_reducible refine vcI_cond ?_); (try simp only [seval, go_sem])))
  simp only [seval, go_sem, hc]
  ((try simp only [seval, go_sem]); repeat ((first | with_reducible refine vsI.id ?_ | with_reducible refine vcI_cond ?_); (try simp only [seval, go_sem])))
  refine loopV.tf (Tf.nilRow 10 tyE 28 rfl) ?_
  refine loopV.tf (Tf.nilRow 11 tyN 1 rfl) ?_
  dsimp only
  refine loopV.rounds 3 ?_
  rw [roundsV_succ]
  ((try simp only [seval, go_sem]); repeat ((first | with_reducible refine vsI.id ?_ | with_reducible refine vcI_cond ?_); (try simp only [seval, go_sem])))
  (try with_reducible refine appM.toT ?_); (refine appM_newF 10 atyE rfl rfl rfl rfl rfl rfl rfl (by simp [Value.oneCell']) (by omega) (fun A1 Ac1 hA1 hA1x => ?_)); simp only [seval, go_sem]; ((try simp only [seval, go_sem]); repeat ((first | with_reducible refine vsI.id ?_ | with_reducible refine vcI_cond ?_); (try simp only [seval, go_sem])))
  (refine appT.toRow 40 4 (m := 0) (sz := 2) rfl rfl rfl (by omega) (fun b => ?_)); simp only [seval, go_sem, rowSt, subV, subC, subE, subL]
  (try with_reducible refine appM.toT ?_); (refine appM_newF 11 atyN rfl rfl rfl rfl rfl rfl rfl (by simp [Value.oneCell']) (by omega) (fun A2 Ac2 hA2 hA2x => ?_)); simp only [seval, go_sem]; ((try simp only [seval, go_sem]); repeat ((first | with_reducible refine vsI.id ?_ | with_reducible refine vcI_cond ?_); (try simp only [seval, go_sem])))
  simp only [seval, go_sem, roundK_normal]
  rw [roundsV_succ]
  try simp only [show IntKind.i64.wrap 1 = 1 from rfl]
  ((try simp only [seval, go_sem]); repeat ((first | with_reducible refine vsI.id ?_ | with_reducible refine vcI_cond ?_); (try simp only [seval, go_sem])))
  (try with_reducible refine appM.toT ?_); (refine appM_newF 10 atyE rfl rfl rfl rfl rfl rfl rfl (by simp [Value.oneCell']) (by omega) (fun B1 Bc1 hB1 hB1x => ?_)); simp only [seval, go_sem]; ((try simp only [seval, go_sem]); repeat ((first | with_reducible refine vsI.id ?_ | with_reducible refine vcI_cond ?_); (try simp only [seval, go_sem])))
  (refine appT.toRow 50 7 (m := 0) (sz := 2) rfl rfl rfl (by omega) (fun b => ?_)); simp only [seval, go_sem, rowSt, subV, subC, subE, subL]
  (try with_reducible refine appM.toT ?_); (refine appM_newF 11 atyN rfl rfl rfl rfl rfl rfl rfl (by simp [Value.oneCell']) (by omega) (fun B2 Bc2 hB2 hB2x => ?_)); simp only [seval, go_sem]; ((try simp only [seval, go_sem]); repeat ((first | with_reducible refine vsI.id ?_ | with_reducible refine vcI_cond ?_); (try simp only [seval, go_sem])))
  simp only [seval, go_sem, roundK_normal]
  rw [roundsV_succ]
  try simp only [show IntKind.i64.wrap 2 = 2 from rfl]
  ((try simp only [seval, go_sem]); repeat ((first | with_reducible refine vsI.id ?_ | with_reducible refine vcI_cond ?_); (try simp only [seval, go_sem])))
  simp only [seval, go_sem, roundK_exit]
  ((try simp only [seval, go_sem]); repeat ((first | with_reducible refine vsI.id ?_ | with_reducible refine vcI_cond ?_); (try simp only [seval, go_sem])))
  refine FinV.tf (Tf.nilRow 20 tyP 3 rfl) ?_
  refine FinV.tf (Tf.nilRow 21 tyP 3 rfl) ?_
  refine FinV.tf (Tf.nilRow 22 tyS 1 rfl) ?_
  refine FinV.tf (Tf.nilRow 23 tyS 1 rfl) ?_
  refine FinV.tf (Tf.nilRow 30 tyP 3 rfl) ?_
  refine FinV.tf (Tf.nilRow 31 tyP 3 rfl) ?_
  refine FinV.tf (Tf.nilRow 32 tyS 1 rfl) ?_
  refine FinV.tf (Tf.nilRow 33 tyS 1 rfl) ?_
  refine FinV.tf (Tf.addE 41 rfl) ?_
  refine FinV.tf (Tf.addE 51 rfl) ?_
  dsimp only
  (refine FinV.tf (Tf.pack 999 [10, 11, 20, 21, 22, 23, 30, 31, 32, 33, 40, 41, 50, 51] (by simp only [popL, look, del, Nat.reduceEqDiff, reduceCtorEq, if_true, if_false, reduceIte, Nat.succ_ne_self]; exact rfl) (by simp only [look, Nat.reduceEqDiff, reduceCtorEq, if_true, if_false, reduceIte])) ?_); dsimp only
  (((try simp only [seval, go_sem]); repeat ((first | with_reducible refine vsI.id ?_ | with_reducible refine vcI_cond ?_); (try simp only [seval, go_sem]))); refine FinV.own 999 rfl ?_; simp only [finE, finS, gt, look, SV.toV, SC.toV, allV, tupV, List.map_cons, List.map_nil, List.length_cons, List.length_nil, Nat.reduceAdd, Nat.reduceEqDiff, reduceCtorEq, if_true, if_false, reduceIte, Nat.succ_ne_self, true_and, List.getElem?_cons_zero, Nat.zero_add, Nat.add_zero])
  rw [show wldNew c = ⟨c, [end0, end0], [[], []], 0⟩ by unfold wldNew; rw [if_pos hc]]
  have hE : EndR z end0 ⟨none, 0, [], none, 0, [], none, 0, [], none, 0, [], none, 0, none, 0, none, 0⟩ := ⟨rfl, Nat.le_refl _, rfl, Nat.le_refl _, rfl, Nat.le_refl _, rfl, Nat.le_refl _, Sl.nil _ _ _, Sl.nil _ _ _, Sl.nil _ _ _⟩
  exact ⟨end0, end0, [], [], ⟨B1, Bc1, B2, Bc2, _, _, ⟨_, 0, []⟩, ⟨_, 0, []⟩⟩, rfl, rfl, rfl, rfl, rfl, ⟨hE, hE, ⟨trivial, Nat.le_refl _⟩, ⟨trivial, Nat.le_refl _⟩⟩⟩
end Go.Proofs.YtpjaidjnamngaaaGreat
namespace Go.Proofs.YtpjaidjnamngaaaGreat
set_option linter.unusedVariables false
set_option linter.unusedSimpArgs false
open Go.RowKit
set_option maxRecDepth 100000
set_option maxHeartbeats 1000000
/-- What may be read of something, once it stays. -/
def RdA (A : Asrt) (G : Zc → Prop) : Prop := ∀ (z : Zc) (F : Nat → Prop), A.holds z.w F → (∀ b, F b → z.ok b) → G z
theorem RdA.row {e sz n c : Nat} {A : Option Addr} {cs : List Value} : RdA (rowA e sz (.slice A n c) n cs) fun z => RdAt z A 0 cs := fun z F ⟨hrow, hF⟩ hz => by
  obtain ⟨A', c', h1, h2, h3⟩ := hrow.rd
  injection h1 with h1 _ _
  subst h1
  intro hn
  obtain ⟨b, o, e1, hc⟩ := h3 hn
  subst e1
  have hb : F b := (hF b).2 rfl
  exact ⟨b, o, rfl, ⟨hz b hb, hrow.lt b rfl⟩, fun i u hu => by have := hc i u hu; simpa using this⟩
theorem RdA.cons {A : Asrt} {As : List Asrt} {G H : Zc → Prop} (h : RdA A G) (k : RdA (starL As) H) : RdA (starL (A :: As)) fun z => G z ∧ H z := fun z F ⟨F1, F2, h1, h2, hd, hF⟩ hz => ⟨h z F1 h1 fun b hb => hz b ((hF b).2 (.inl hb)), k z F2 h2 fun b hb => hz b ((hF b).2 (.inr hb))⟩
theorem RdA.nil : RdA (starL []) fun _ => True := fun _ _ _ _ => trivial
theorem RdA.bys {l : List Int} {A : Option Addr} {c : Nat} (hc : l.length ≤ c) (hB : Bys l) : RdA (bysA l A c) fun z => By z l (.slice A l.length c) := fun z F h hz => by
  by_cases hl : l = []
  · rw [hl]; exact Sl.nil _ _ _
  · unfold bysA at h
    rw [if_neg hl] at h
    exact By.mk hc hB (RdA.row z F h hz)
theorem RdA.net : ∀ {l : List Msg} {ms : List (Option Addr × Nat)}, netO l ms → RdA (starL (netB l ms)) fun z => Els mRep z l (netV l ms)
  | [], [], _ => fun _ _ _ _ => rfl
  | [], _ :: _, h => h.elim
  | _ :: _, [], h => h.elim
  | m :: l, (a, c) :: ms, h => fun z F hh hz => by
    obtain ⟨F1, F2, h1, h2, hd, hF⟩ := hh
    exact ⟨[.bool m.bent, .slice a m.bytes.length c], netV l ms, rfl, ⟨_, rfl, RdA.bys h.1.1 h.1.2 z F1 h1 fun b hb => hz b ((hF b).2 (.inl hb))⟩, RdA.net h.2 z F2 h2 fun b hb => hz b ((hF b).2 (.inr hb))⟩
theorem Sat.frzA {C : Ctx} {ρ : Nm} {s : St} {a : Act} {w : World} {k : Nat} {A : Asrt} {G : Zc → Prop} (h : Sat C ρ s a w) (hk : look k s.L = some (.own A)) (hA : RdA A G) : ∃ z', s.z ≤ z' ∧ G z' ∧ Sat C ρ ⟨s.t, del k s.L, z', s.n⟩ a w := by
  obtain ⟨F, hh, hw⟩ := h.mem
  obtain ⟨F1, F2, hA1, k2, kd, kF⟩ := hh.pick hk
  have hlt : ∀ x, s.z.In x → x < w.heap.size := fun x hx => Nat.lt_of_lt_of_le hx.2 hw.zsize
  have hle : s.z ≤ ⟨fun x => s.z.In x ∨ F1 x, w⟩ := ⟨fun x hx => ⟨⟨.inl hx, hlt x hx⟩, hw.frz x hx⟩⟩
  refine ⟨⟨fun x => s.z.In x ∨ F1 x, w⟩, hle, hA _ F1 hA1 (fun b hb => .inr hb), h.df, h.fr, h.nm, F2, k2, ?_⟩
  refine ⟨hw.os, hw.tape, hw.output, hw.size, Nat.le_refl _, fun _ _ => rfl, ?_, hw.unt, fun x hx => hw.own x ((kF x).2 (.inr hx)), ?_, Zc.trans' hw.zle hle⟩
  · rintro x hx ⟨h | h, _⟩
    · exact hw.dis x ((kF x).2 (.inr hx)) h
    · exact kd x h hx
  · rintro x ⟨h | h, _⟩
    · exact hw.zin x h
    · rcases hw.own x ((kF x).2 (.inl h)) with h | h
      · exact .inr (.inl h)
      · exact .inr (.inr h)
theorem vsI.frzA {P : Program} {ic : IC} {K : Exit → St → Prop} {s : St} (k : Nat) {A : Asrt} {G : Zc → Prop} {z0 : Zc} (hk : look k s.L = some (.own A)) (hA : RdA A G) (hz : s.z = z0) (h : ∀ z', z0 ≤ z' → G z' → vsI P ic K ⟨s.t, del k s.L, z', s.n⟩) : vsI P ic K s := by
  subst hz
  exact fun C ρ a w hs => by
    obtain ⟨z', h1, h2, h3⟩ := hs.frzA hk hA
    exact h z' h1 h2 C ρ a w h3
/-- Two ends that stay. -/
structure EndP (z : Zc) (e : End) (m : EndM) : Prop where
  fl : Sl pRep z e.tx.flight (.slice m.fA e.tx.flight.length m.fC)
  qu : Sl pRep z e.tx.queue (.slice m.qA e.tx.queue.length m.qC)
  pu : Sl sduRep z e.put (.slice m.pA e.put.length m.pC)
  go : Sl sduRep z e.got (.slice m.gA e.got.length m.gC)
  jo : By z e.rx.join.got (.slice m.jA e.rx.join.got.length m.jC)
  cq : Sl pRep z e.ctx.queue (.slice m.cA e.ctx.queue.length m.cC)
  kj : By z e.crx.join.got (.slice m.kA e.crx.join.got.length m.kC)
structure WldP (z : Zc) (e0 e1 : End) (n0 n1 : List Msg) (m : WM) : Prop where
  E : RdAt z m.E 0 (endsC e0 e1 m.m0 m.m1)
  N : RdAt z m.N 0 [.slice m.n0.A n0.length m.n0.C, .slice m.n1.A n1.length m.n1.C]
  e0 : EndP z e0 m.m0
  e1 : EndP z e1 m.m1
  n0 : Sl mRep z n0 (.slice m.n0.A n0.length m.n0.C)
  n1 : Sl mRep z n1 (.slice m.n1.A n1.length m.n1.C)
theorem EndP.mono {z z' : Zc} {e : End} {m : EndM} (hz : z ≤ z') (h : EndP z e m) : EndP z' e m := ⟨Sl.mono hz h.fl, Sl.mono hz h.qu, Sl.mono hz h.pu, Sl.mono hz h.go, Sl.mono hz h.jo, Sl.mono hz h.cq, Sl.mono hz h.kj⟩
theorem WldP.mono {z z' : Zc} {e0 e1 : End} {n0 n1 : List Msg} {m : WM} (hz : z ≤ z') (h : WldP z e0 e1 n0 n1 m) : WldP z' e0 e1 n0 n1 m := ⟨h.E.mono hz, h.N.mono hz, h.e0.mono hz, h.e1.mono hz, Sl.mono hz h.n0, Sl.mono hz h.n1⟩
theorem RdA.wld {z : Zc} {e0 e1 : End} {n0 n1 : List Msg} {m : WM} (hR : WldR z e0 e1 n0 n1 m) : RdA (wldA e0 e1 n0 n1 m) fun z' => z ≤ z' → WldP z' e0 e1 n0 n1 m := fun z' F hh hz hle => by
  obtain ⟨E, N, f0, q0, p0, g0, f1, q1, p1, g1, r0, b0, r1, b1, _⟩ := (RdA.cons RdA.row (.cons RdA.row (.cons RdA.row (.cons RdA.row (.cons RdA.row (.cons RdA.row (.cons RdA.row (.cons RdA.row (.cons RdA.row (.cons RdA.row (.cons RdA.row (.cons (RdA.net hR.n0.ok) (.cons RdA.row (.cons (RdA.net hR.n1.ok) RdA.nil)))))))))))))) z' F hh hz
  have h0 := hR.e0.mono hle
  have h1 := hR.e1.mono hle
  exact ⟨E, N, ⟨⟨_, _, _, rfl, h0.fc, h0.fl, f0⟩, ⟨_, _, _, rfl, h0.qc, h0.qu, q0⟩, ⟨_, _, _, rfl, h0.pc, h0.pu, p0⟩, ⟨_, _, _, rfl, h0.gc, h0.go, g0⟩, h0.jo, h0.cq, h0.kj⟩,
    ⟨⟨_, _, _, rfl, h1.fc, h1.fl, f1⟩, ⟨_, _, _, rfl, h1.qc, h1.qu, q1⟩, ⟨_, _, _, rfl, h1.pc, h1.pu, p1⟩, ⟨_, _, _, rfl, h1.gc, h1.go, g1⟩, h1.jo, h1.cq, h1.kj⟩, ⟨_, _, _, rfl, hR.n0.cap, b0, r0⟩, ⟨_, _, _, rfl, hR.n1.cap, b1, r1⟩⟩
end Go.Proofs.YtpjaidjnamngaaaGreat
