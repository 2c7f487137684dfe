/- Sums of bytes, by the program and by its reference. · Frames, by the program and by its reference. · Frames as bytes, by the program and by its reference. · Frames read, by the program and by its reference. · Frames read, by the reference. -/
import Derived.Test.YtpjaidjnamngaaaGreatR8
import Derived.Test.YtpjaidjnamngaaaGreatR7
namespace Go.Proofs.YtpjaidjnamngaaaGreat
open Go.RowKit
set_option linter.unusedVariables false
set_option linter.unusedSimpArgs false
set_option maxRecDepth 100000
set_option maxHeartbeats 1000000
theorem bc_one (l : List Int) : ∀ u ∈ bc l, u.oneCell' = true := by intro u hu; obtain ⟨x, _, rfl⟩ := List.mem_map.1 hu; rfl
theorem crcN_succ (k x : Nat) : crcN (k + 1) x = crcHalf (crcN k x) := by
  induction k generalizing x with
  | zero => rfl
  | succ k ih => rw [crcN, ih (crcHalf x)]; rfl
theorem wrap_small (n : Int) (h0 : 0 ≤ n) (h1 : n < 2 ^ 62) : IntKind.i64.wrap n = n := by rw [IntKind.wrap_i64]; omega
theorem bits_xor_i64 (a b : Nat) (ha : a < 2 ^ 62) (hb : b < 2 ^ 62) : bits .xor .i64 (a : Int) (b : Int) = ((a ^^^ b : Nat) : Int) := by
  have ha' : a % 2 ^ 64 = a := Nat.mod_eq_of_lt (Nat.lt_of_lt_of_le ha (by decide))
  have hb' : b % 2 ^ 64 = b := Nat.mod_eq_of_lt (Nat.lt_of_lt_of_le hb (by decide))
  simp only [bits, BitVec.ofInt_natCast, BitVec.toNat_xor, BitVec.toNat_ofNat]
  have e : IntKind.i64.bits = 64 := rfl
  rw [e, ha', hb']
  exact wrap_small _ (Int.natCast_nonneg _) (by have := Nat.xor_lt_two_pow ha hb; exact_mod_cast this)
theorem bits_and_i64 (a b : Nat) (ha : a < 2 ^ 62) (hb : b < 2 ^ 62) : bits .and .i64 (a : Int) (b : Int) = ((a &&& b : Nat) : Int) :=
  (bits_nat .i64 62 (by decide) wrap_small a b ha hb).1
theorem bits_xor_u8 (a b : Nat) (ha : a < 256) (hb : b < 256) : bits .xor .u8 (a : Int) (b : Int) = ((a ^^^ b : Nat) : Int) := by
  have ha' : a % 2 ^ 8 = a := Nat.mod_eq_of_lt ha
  have hb' : b % 2 ^ 8 = b := Nat.mod_eq_of_lt hb
  simp only [bits, BitVec.ofInt_natCast, BitVec.toNat_xor, BitVec.toNat_ofNat]
  have e : IntKind.u8.bits = 8 := rfl
  rw [e, ha', hb', IntKind.wrap_u8]
  have := Nat.xor_lt_two_pow (n := 8) ha hb
  omega
theorem and_one (y : Nat) (h : y < 65536) : bits .and .i64 (y : Int) 1 = ((y % 2 : Nat) : Int) := by
  have := bits_and_i64 y 1 (by omega) (by omega)
  rw [Nat.and_one_is_mod] at this; exact this
theorem xor_poly (y : Nat) (h : y < 65536) : bits .xor .i64 (y : Int) 40961 = ((y ^^^ 40961 : Nat) : Int) := bits_xor_i64 y 40961 (by omega) (by omega)
theorem step_s (s b : Nat) (hs : s < 65536) (hb : b < 256) (z : Zc) : PSpec Tryz.prog 145 [.int .i64 s, .int .u8 b] z fun v z' => v = .int .i64 (crcStep s b) ∧ z = z' := by
  have e0 : bits .xor .i64 (s : Int) (b : Int) = ((s ^^^ b : Nat) : Int) := bits_xor_i64 s b (by omega) (by omega)
  have hx := Nat.xor_lt_two_pow (n := 16) (x := s) (y := b) (by omega) (by omega)
  have i1 : inB s 0 65535 = true := inB_iff.mpr (by omega)
  unfold crcStep
  (refine pspec_enter Tryz.func145 ic145_ok fr145_ok Tryz.ntmps145 ?_; simp only [seval, go_sem, ic145, fr145])
  ((try simp only [seval, go_sem]);repeat((with_reducible first|refine vJ ?_|refine vK ?_);try simp only [seval, go_sem]))
  try ((try with_reducible refine callM.toT ?_); refine callP (in_s _ _ _ _) rfl rfl ?_; rintro _ _ - ⟨rfl, rfl⟩; simp only [i1]; ((try simp only [seval, go_sem]);repeat((with_reducible first|refine vJ ?_|refine vK ?_);try simp only [seval, go_sem]))); ((try simp only [seval, go_sem]);repeat((with_reducible first|refine vJ ?_|refine vK ?_);try simp only [seval, go_sem]))
  rw [wrap_in (n := (b : Int)) (by omega) (by omega), e0]
  generalize s ^^^ b = x at hx ⊢
  refine loop_upd (ι := Nat) (n := 0) (fun k => k ≤ 8) (fun k => [(0, .c (.v (.int .i64 (crcN k x)))), (5, .c (.v (.int .i64 k)))]) (fun _ => []) (fun _ => z) (fun k => 8 - k) 0 (by omega) (by (simp only [wrI, wrR, anyL, st, List.append_nil, List.nil_append, List.cons_append]); exact rfl) ?_ ?_
  · (refine Le.of ?_ ?_ rfl ?_ ⟨rfl, rfl⟩; rotate_left; (repeat (first | exact trivial | refine ⟨rfl, ?_⟩)); (first | exact Nat.le_refl _ | decide | (dsimp only; omega)); (simp (disch := omega) only [LeT, updL, st, reduceCtorEq, true_or, or_true, false_or, and_true, true_and, SV.c.injEq, SC.v.injEq, Value.int.injEq, Value.slice.injEq, wrap_in, Int.natCast_add, Int.natCast_one, Int.natCast_zero, Int.cast_ofNat_Int]) <;> (try (repeat' constructor)) <;> (first | rfl | omega))
  · rintro k hk
    have hy := crcN_lt k (x := x) hx
    have hsu := crcN_succ k x
    generalize hyk : crcN k x = y at hy hsu ⊢
    ((try simp only [seval, go_sem]);repeat((with_reducible first|refine vJ ?_|refine vK ?_);try simp only [seval, go_sem]))
    (with_reducible refine condI.split (fun hg => ?_) (fun hg => ?_) <;> (try simp only [hg]) <;> (try simp only [seval, go_sem]))
    · ((try simp only [seval, go_sem]);repeat((with_reducible first|refine vJ ?_|refine vK ?_);try simp only [seval, go_sem]))
      have hk8 : k < 8 := by simp at hg; omega
      try (refine ⟨by decide, ?_⟩; ((try simp only [seval, go_sem]);repeat((with_reducible first|refine vJ ?_|refine vK ?_);try simp only [seval, go_sem])))
      have q1 : (y : Int) / 2 = ((y / 2 : Nat) : Int) := by omega
      have q2 : (y : Int).tdiv 2 = ((y / 2 : Nat) : Int) := by rw [Int.tdiv_eq_ediv_of_nonneg (by omega)]; omega
      have q3 : (y : Int).tmod 2 = ((y % 2 : Nat) : Int) := by rw [Int.tmod_eq_emod_of_nonneg (by omega)]; omega
      have q4 : IntKind.i64.wrap ((y / 2 : Nat) : Int) = ((y / 2 : Nat) : Int) := wrap_in (by omega) (by omega)
      simp only [and_one y hy, q1, q2, q3, q4]
      (with_reducible refine condI.split (fun hg => ?_) (fun hg => ?_) <;> (try simp only [hg]) <;> (try simp only [seval, go_sem]))
      · ((try simp only [seval, go_sem]);repeat((with_reducible first|refine vJ ?_|refine vK ?_);try simp only [seval, go_sem]))
        try simp only [q2, q4]
        rw [xor_poly _ (by omega)]
        rw [crcHalf, if_pos (by simp at hg; omega)] at hsu
        refine ⟨k + 1, by omega, by omega, ?_⟩
        rw [hsu]
        (refine Le.of ?_ ?_ rfl ?_ ⟨rfl, rfl⟩; rotate_left; (repeat (first | exact trivial | refine ⟨rfl, ?_⟩)); (first | exact Nat.le_refl _ | decide | (dsimp only; omega)); (simp (disch := omega) only [LeT, updL, st, reduceCtorEq, true_or, or_true, false_or, and_true, true_and, SV.c.injEq, SC.v.injEq, Value.int.injEq, Value.slice.injEq, wrap_in, Int.natCast_add, Int.natCast_one, Int.natCast_zero, Int.cast_ofNat_Int]) <;> (try (repeat' constructor)) <;> (first | rfl | omega))
      · ((try simp only [seval, go_sem]);repeat((with_reducible first|refine vJ ?_|refine vK ?_);try simp only [seval, go_sem]))
        try simp only [q2, q4]
        rw [crcHalf, if_neg (by simp at hg; omega)] at hsu
        refine ⟨k + 1, by omega, by omega, ?_⟩
        simp only [hsu]
        (refine Le.of ?_ ?_ rfl ?_ ⟨rfl, rfl⟩; rotate_left; (repeat (first | exact trivial | refine ⟨rfl, ?_⟩)); (first | exact Nat.le_refl _ | decide | (dsimp only; omega)); (simp (disch := omega) only [LeT, updL, st, reduceCtorEq, true_or, or_true, false_or, and_true, true_and, SV.c.injEq, SC.v.injEq, Value.int.injEq, Value.slice.injEq, wrap_in, Int.natCast_add, Int.natCast_one, Int.natCast_zero, Int.cast_ofNat_Int]) <;> (try (repeat' constructor)) <;> (first | rfl | omega))
    · ((try simp only [seval, go_sem]);repeat((with_reducible first|refine vJ ?_|refine vK ?_);try simp only [seval, go_sem]))
      (((try simp only [seval, go_sem]);repeat((with_reducible first|refine vJ ?_|refine vK ?_);try simp only [seval, go_sem])); with_reducible refine FinV.of ?_; simp only [finE, finS, gt, look, SV.toV, SC.toV, allV, tupV, zq1, zq2, zq3, zq4, Nat.reduceAdd, Nat.reduceEqDiff, reduceCtorEq, if_true, if_false, reduceIte, Nat.succ_ne_self, true_and, zq5, zq7, zq8])
      have : k = 8 := by simp at hg; omega
      subst this
      simp [hyk]
theorem crcOf_snoc (l : List Int) (x : Int) : crcOf (l ++ [x]) = crcStep (crcOf l) x.toNat := by simp [crcOf, List.foldl_append]
theorem take_snoc {α : Type} {l : List α} {k : Nat} {x : α} (h : l[k]? = some x) : l.take (k + 1) = l.take k ++ [x] := by rw [List.take_add_one, h]; rfl
theorem byte_at {z : Zc} {A : Option Addr} {l : List Int} (hr : RdAt z A 0 (bc l)) {k : Nat} {x : Int} (hx : l[k]? = some x) : RdAt z A (k * 1) [.int .u8 x] := by
  have := hr.cell k (u := .int .u8 x) (by simp [hx])
  simpa using this
theorem byte_is {z : Zc} {A : Option Addr} {l : List Int} (hr : RdAt z A 0 (bc l)) {k : Nat} (hk : k < l.length) : IsAt A := hr.isAt (by simp; omega)
theorem crcOf_s (l : List Int) (v : Value) (z : Zc) (h : By z l v) (hl : l.length ≤ 1000000000) : PSpec Tryz.prog 131 [v] z fun v z' => v = .int .i64 (crcOf l) ∧ z = z' := by
  obtain ⟨A, c, rfl, hc, hB, hr⟩ := h.form
  (refine pspec_enter Tryz.func131 ic131_ok fr131_ok Tryz.ntmps131 ?_; simp only [seval, go_sem, ic131, fr131])
  ((try simp only [seval, go_sem]);repeat((with_reducible first|refine vJ ?_|refine vK ?_);try simp only [seval, go_sem]))
  refine loop_upd (ι := Nat) (n := 0) (fun k => k ≤ l.length) (fun k => [(3, .c (.v (.int .i64 (crcOf (l.take k))))), (4, .c (.v (.int .i64 k)))]) (fun _ => []) (fun _ => z) (fun k => l.length - k) 0 (by omega) (by (simp only [wrI, wrR, anyL, st, List.append_nil, List.nil_append, List.cons_append]); exact rfl) ?_ ?_
  · (refine Le.of ?_ ?_ rfl ?_ ⟨rfl, rfl⟩; rotate_left; (repeat (first | exact trivial | refine ⟨rfl, ?_⟩)); (first | exact Nat.le_refl _ | decide | (dsimp only; omega)); (simp (disch := omega) only [LeT, updL, st, reduceCtorEq, true_or, or_true, false_or, and_true, true_and, SV.c.injEq, SC.v.injEq, Value.int.injEq, Value.slice.injEq, wrap_in, Int.natCast_add, Int.natCast_one, Int.natCast_zero, Int.cast_ofNat_Int]) <;> (try (repeat' constructor)) <;> (first | rfl | omega))
  · rintro k hk
    ((try simp only [seval, go_sem]);repeat((with_reducible first|refine vJ ?_|refine vK ?_);try simp only [seval, go_sem]))
    (with_reducible refine condI.split (fun hg => ?_) (fun hg => ?_) <;> (try simp only [hg]) <;> (try simp only [seval, go_sem]))
    · ((try simp only [seval, go_sem]);repeat((with_reducible first|refine vJ ?_|refine vK ?_);try simp only [seval, go_sem]))
      have hk' : k < l.length := by simp at hg; omega
      obtain ⟨x, hx⟩ : ∃ x, l[k]? = some x := ⟨_, List.getElem?_eq_getElem hk'⟩
      have hbx := hB x (List.mem_of_getElem? hx)
      obtain ⟨xn, rfl⟩ := Int.eq_ofNat_of_zero_le hbx.1
      (refine ⟨⟨by omega, by omega, byte_is hr hk'⟩, ?_⟩; (try simp only [seval, go_sem]))
      (refine ldF.one _ (by first | exact .inl (byte_at hr hx) | exact (byte_at hr hx)) ?_; (try simp only [seval, go_sem]))
      ((try simp only [seval, go_sem]);repeat((with_reducible first|refine vJ ?_|refine vK ?_);try simp only [seval, go_sem]))
      (try with_reducible refine callM.toT ?_); refine callP (step_s (crcOf (l.take k)) xn (crcOf_lt (hB.take k)) (by omega) z) rfl rfl ?_; rintro _ _ - ⟨rfl, rfl⟩; ((try simp only [seval, go_sem]);repeat((with_reducible first|refine vJ ?_|refine vK ?_);try simp only [seval, go_sem]))
      have e : crcOf (l.take (k + 1)) = crcStep (crcOf (l.take k)) xn := by rw [take_snoc hx, crcOf_snoc]; simp
      refine ⟨k + 1, by omega, by omega, ?_⟩
      rw [← e]
      (refine Le.of ?_ ?_ rfl ?_ ⟨rfl, rfl⟩; rotate_left; (repeat (first | exact trivial | refine ⟨rfl, ?_⟩)); (first | exact Nat.le_refl _ | decide | (dsimp only; omega)); (simp (disch := omega) only [LeT, updL, st, reduceCtorEq, true_or, or_true, false_or, and_true, true_and, SV.c.injEq, SC.v.injEq, Value.int.injEq, Value.slice.injEq, wrap_in, Int.natCast_add, Int.natCast_one, Int.natCast_zero, Int.cast_ofNat_Int]) <;> (try (repeat' constructor)) <;> (first | rfl | omega))
    · ((try simp only [seval, go_sem]);repeat((with_reducible first|refine vJ ?_|refine vK ?_);try simp only [seval, go_sem]))
      (((try simp only [seval, go_sem]);repeat((with_reducible first|refine vJ ?_|refine vK ?_);try simp only [seval, go_sem])); with_reducible refine FinV.of ?_; simp only [finE, finS, gt, look, SV.toV, SC.toV, allV, tupV, zq1, zq2, zq3, zq4, Nat.reduceAdd, Nat.reduceEqDiff, reduceCtorEq, if_true, if_false, reduceIte, Nat.succ_ne_self, true_and, zq5, zq7, zq8])
      have : k = l.length := by simp at hg; omega
      subst this
      simp
theorem eq_take {l m : List Int} {k : Nat} {x y : Int} (hx : l[k]? = some x) (hy : m[k]? = some y) (ht : l.take k = m.take k) (h : x = y) : l.take (k + 1) = m.take (k + 1) := by rw [take_snoc hx, take_snoc hy, ht, h]
theorem equalB (l m : List Int) (v u : Value) (z : Zc) (h : By z l v) (h' : By z m u) (hl : l.length ≤ 1000000000) (hm : m.length ≤ 1000000000) : PSpec Tryz.prog 96 [v, u] z fun v z' => v = .bool (decide (l = m)) ∧ z = z' := by
  obtain ⟨A, c, rfl, hc, hB, hr⟩ := h.form
  obtain ⟨A', c', rfl, hc', hB', hr'⟩ := h'.form
  (refine pspec_enter Tryz.func96 ic96_ok fr96_ok Tryz.ntmps96 ?_; simp only [seval, go_sem, ic96, fr96])
  ((try simp only [seval, go_sem]);repeat((with_reducible first|refine vJ ?_|refine vK ?_);try simp only [seval, go_sem]))
  (with_reducible refine condI.split (fun hg => ?_) (fun hg => ?_) <;> (try simp only [hg]) <;> (try simp only [seval, go_sem]))
  · ((try simp only [seval, go_sem]);repeat((with_reducible first|refine vJ ?_|refine vK ?_);try simp only [seval, go_sem]))
    (((try simp only [seval, go_sem]);repeat((with_reducible first|refine vJ ?_|refine vK ?_);try simp only [seval, go_sem])); with_reducible refine FinV.of ?_; simp only [finE, finS, gt, look, SV.toV, SC.toV, allV, tupV, zq1, zq2, zq3, zq4, Nat.reduceAdd, Nat.reduceEqDiff, reduceCtorEq, if_true, if_false, reduceIte, Nat.succ_ne_self, true_and, zq5, zq7, zq8])
    have : l ≠ m := by rintro rfl; simp at hg
    simp [this]
  · have hlen : l.length = m.length := by simp at hg; omega
    ((try simp only [seval, go_sem]);repeat((with_reducible first|refine vJ ?_|refine vK ?_);try simp only [seval, go_sem]))
    refine loop_upd (ι := Nat) (n := 0) (fun k => k ≤ l.length ∧ l.take k = m.take k) (fun k => [(13, .c (.v (.int .i64 k)))]) (fun _ => []) (fun _ => z) (fun k => l.length - k) 0 (by simp) (by (simp only [wrI, wrR, anyL, st, List.append_nil, List.nil_append, List.cons_append]); exact rfl) ?_ ?_
    · (refine Le.of ?_ ?_ rfl ?_ ⟨rfl, rfl⟩; rotate_left; (repeat (first | exact trivial | refine ⟨rfl, ?_⟩)); (first | exact Nat.le_refl _ | decide | (dsimp only; omega)); (simp (disch := omega) only [LeT, updL, st, reduceCtorEq, true_or, or_true, false_or, and_true, true_and, SV.c.injEq, SC.v.injEq, Value.int.injEq, Value.slice.injEq, wrap_in, Int.natCast_add, Int.natCast_one, Int.natCast_zero, Int.cast_ofNat_Int]) <;> (try (repeat' constructor)) <;> (first | rfl | omega))
    · rintro k ⟨hk, ht⟩
      ((try simp only [seval, go_sem]);repeat((with_reducible first|refine vJ ?_|refine vK ?_);try simp only [seval, go_sem]))
      (with_reducible refine condI.split (fun hg => ?_) (fun hg => ?_) <;> (try simp only [hg]) <;> (try simp only [seval, go_sem]))
      · have hk' : k < l.length := by simp at hg; omega
        obtain ⟨x, hx⟩ : ∃ x, l[k]? = some x := ⟨_, List.getElem?_eq_getElem hk'⟩
        obtain ⟨y, hy⟩ : ∃ y, m[k]? = some y := ⟨_, List.getElem?_eq_getElem (by omega)⟩
        ((try simp only [seval, go_sem]);repeat((with_reducible first|refine vJ ?_|refine vK ?_);try simp only [seval, go_sem]))
        (refine ⟨⟨by omega, by omega, byte_is hr hk'⟩, ?_⟩; (try simp only [seval, go_sem]))
        (refine ldF.one _ (by first | exact .inl (byte_at hr hx) | exact (byte_at hr hx)) ?_; (try simp only [seval, go_sem]))
        (refine ⟨⟨by omega, by omega, byte_is hr' (show k < m.length by omega)⟩, ?_⟩; (try simp only [seval, go_sem]))
        (refine ldF.one _ (by first | exact .inl (byte_at hr' hy) | exact (byte_at hr' hy)) ?_; (try simp only [seval, go_sem]))
        ((try simp only [seval, go_sem]);repeat((with_reducible first|refine vJ ?_|refine vK ?_);try simp only [seval, go_sem]))
        (with_reducible refine condI.split (fun hg => ?_) (fun hg => ?_) <;> (try simp only [hg]) <;> (try simp only [seval, go_sem]))
        · ((try simp only [seval, go_sem]);repeat((with_reducible first|refine vJ ?_|refine vK ?_);try simp only [seval, go_sem]))
          (((try simp only [seval, go_sem]);repeat((with_reducible first|refine vJ ?_|refine vK ?_);try simp only [seval, go_sem])); with_reducible refine FinV.of ?_; simp only [finE, finS, gt, look, SV.toV, SC.toV, allV, tupV, zq1, zq2, zq3, zq4, Nat.reduceAdd, Nat.reduceEqDiff, reduceCtorEq, if_true, if_false, reduceIte, Nat.succ_ne_self, true_and, zq5, zq7, zq8])
          have : l ≠ m := by rintro rfl; rw [hx] at hy; injection hy with hy; subst hy; simp at *
          simp [this]
        · ((try simp only [seval, go_sem]);repeat((with_reducible first|refine vJ ?_|refine vK ?_);try simp only [seval, go_sem]))
          refine ⟨k + 1, ⟨by omega, eq_take hx hy ht (by simpa using hg)⟩, by omega, ?_⟩
          (refine Le.of ?_ ?_ rfl ?_ ⟨rfl, rfl⟩; rotate_left; (repeat (first | exact trivial | refine ⟨rfl, ?_⟩)); (first | exact Nat.le_refl _ | decide | (dsimp only; omega)); (simp (disch := omega) only [LeT, updL, st, reduceCtorEq, true_or, or_true, false_or, and_true, true_and, SV.c.injEq, SC.v.injEq, Value.int.injEq, Value.slice.injEq, wrap_in, Int.natCast_add, Int.natCast_one, Int.natCast_zero, Int.cast_ofNat_Int]) <;> (try (repeat' constructor)) <;> (first | rfl | omega))
      · ((try simp only [seval, go_sem]);repeat((with_reducible first|refine vJ ?_|refine vK ?_);try simp only [seval, go_sem]))
        (((try simp only [seval, go_sem]);repeat((with_reducible first|refine vJ ?_|refine vK ?_);try simp only [seval, go_sem])); with_reducible refine FinV.of ?_; simp only [finE, finS, gt, look, SV.toV, SC.toV, allV, tupV, zq1, zq2, zq3, zq4, Nat.reduceAdd, Nat.reduceEqDiff, reduceCtorEq, if_true, if_false, reduceIte, Nat.succ_ne_self, true_and, zq5, zq7, zq8])
        have : k = l.length := by simp at hg; omega
        subst this
        rw [List.take_length, hlen, List.take_length] at ht
        simp [ht]
theorem crcPut_bc (l : List Int) (n : Nat) (h : crcOf l = n) (hn : n < 65536) : bc (crcPut l) = bc l ++ [.int .u8 ((n % 256 : Nat) : Int), .int .u8 ((n / 256 : Nat) : Int)] := by subst h; simp [crcPut, bc]
theorem crcPut_bs (l : List Int) (h : crcOf l < 65536) : bc l ++ [Value.int .u8 (IntKind.u8.wrap ((crcOf l : Int).tmod 256)), Value.int .u8 (IntKind.u8.wrap (IntKind.i64.wrap ((crcOf l : Int).tdiv 256)))] = bc (crcPut l) := by
  rw [crcPut_bc l _ rfl h, Int.tmod_eq_emod_of_nonneg (by omega), Int.tdiv_eq_ediv_of_nonneg (by omega), wrap_in (by omega) (by omega), IntKind.wrap_u8, IntKind.wrap_u8]
  congr 3
  · congr 1; omega
  · congr 2; omega
theorem crcCut_short {l : List Int} (h : l.length < 2) : crcCut l = none := by unfold crcCut; rw [if_neg (by omega)]
theorem crcCut_no {l : List Int} (h : crcPut (l.take (l.length - 2)) ≠ l) : crcCut l = none := by unfold crcCut; rw [if_neg (fun k => h k.2)]
theorem crcCut_yes {l : List Int} (h2 : 2 ≤ l.length) (h : crcPut (l.take (l.length - 2)) = l) : crcCut l = some (l.take (l.length - 2)) := by unfold crcCut; rw [if_pos ⟨h2, h⟩]
theorem crcCut_sum {l : List Int} (h2 : 2 ≤ l.length) (hB : Bys l) {x y : Int} (hx : l[l.length - 2]? = some x) (hy : l[l.length - 2 + 1]? = some y) : (crcOf (l.take (l.length - 2)) : Int) = x + y * 256 ↔ crcPut (l.take (l.length - 2)) = l := by
  have hs : l = l.take (l.length - 2) ++ [x, y] := by
    have h1 : l.drop (l.length - 2) = [x, y] := by
      apply List.ext_getElem?
      intro i
      rw [List.getElem?_drop]
      match i with
      | 0 => simpa using hx
      | 1 => simpa using hy
      | i + 2 => rw [List.getElem?_eq_none (by omega)]; simp
    rw [← h1, List.take_append_drop]
  have hbx := hB x (List.mem_of_getElem? hx)
  have hby := hB y (List.mem_of_getElem? hy)
  have hlt := crcOf_lt (hB.take (l.length - 2))
  constructor
  · intro e
    conv => rhs; rw [hs]
    unfold crcPut
    congr 1
    simp only [List.cons.injEq, and_true]
    omega
  · intro e
    rw [hs] at e
    unfold crcPut at e
    simp only [List.length_append, List.length_cons, List.length_nil, List.length_take] at e
    have e' : crcOf (l.take (l.length - 2)) = crcOf (l.take (l.length - 2)) := rfl
    have hm : min (l.length - 2) l.length + (0 + 1 + 1) - 2 = l.length - 2 := by omega
    rw [hm, List.take_append_of_le_length (by rw [List.length_take]; omega), List.take_take, Nat.min_self] at e
    have := List.append_cancel_left e
    simp only [List.cons.injEq, and_true] at this
    omega
theorem crcCut_s (l : List Int) (v : Value) (z : Zc) (h : By z l v) (hl : l.length ≤ 100000000) : PSpec Tryz.prog 138 [v] z fun v z' => ∃ u, match crcCut l with
    | some b => v = .tuple #[u, .bool true] ∧ By z' b u
    | none => v = .tuple #[u, .bool false] ∧ By z' [] u := by
  obtain ⟨A, c, rfl, hc, hB, hr⟩ := h.form
  (refine pspec_enter Tryz.func138 ic138_ok fr138_ok Tryz.ntmps138 ?_; simp only [seval, go_sem, ic138, fr138])
  ((try simp only [seval, go_sem]);repeat((with_reducible first|refine vJ ?_|refine vK ?_);try simp only [seval, go_sem]))
  (with_reducible refine guardR.split (fun hg => ?_) (fun hg => ?_) <;> (try simp only [hg]) <;> simp only [seval, go_sem])
  · ((try simp only [seval, go_sem]);repeat((with_reducible first|refine vJ ?_|refine vK ?_);try simp only [seval, go_sem]))
    refine FinV.frz 0 rfl rfl (fun b z1 hz1 hr1 => ?_)
    simp only [seval, go_sem, Go.Proofs.YtpjaidjnamngaaaGreat.frz, subV, subC, subE, subL]
    (((try simp only [seval, go_sem]);repeat((with_reducible first|refine vJ ?_|refine vK ?_);try simp only [seval, go_sem])); with_reducible refine FinV.of ?_; simp only [finE, finS, gt, look, SV.toV, SC.toV, allV, tupV, zq1, zq2, zq3, zq4, Nat.reduceAdd, Nat.reduceEqDiff, reduceCtorEq, if_true, if_false, reduceIte, Nat.succ_ne_self, true_and, zq5, zq7, zq8])
    rw [crcCut_short (by rw [decide_eq_true_eq, wrap_in (by omega) (by omega)] at hg; omega)]
    exact ⟨_, rfl, Sl.nil _ _ _⟩
  · have h2 : 2 ≤ l.length := by rw [decide_eq_false_iff_not, wrap_in (by omega) (by omega)] at hg; omega
    have w1 : IntKind.i64.wrap ((l.length : Int) - 2) = ((l.length - 2 : Nat) : Int) := by rw [wrap_in (by omega) (by omega)]; omega
    have w2 : IntKind.i64.wrap (((l.length - 2 : Nat) : Int) + 1) = ((l.length - 2 + 1 : Nat) : Int) := by rw [wrap_in (by omega) (by omega)]; omega
    have ht : By z (l.take (l.length - 2)) (.slice A (l.length - 2) c) := h.take (by omega) (by omega)
    obtain ⟨x, hx⟩ : ∃ x, l[l.length - 2]? = some x := ⟨_, List.getElem?_eq_getElem (by omega)⟩
    obtain ⟨y, hy⟩ : ∃ y, l[l.length - 2 + 1]? = some y := ⟨_, List.getElem?_eq_getElem (by omega)⟩
    have hbx := hB x (List.mem_of_getElem? hx)
    have hby := hB y (List.mem_of_getElem? hy)
    have hsum := crcCut_sum h2 hB hx hy
    have w3 : IntKind.i64.wrap x = x := wrap_in (by omega) (by omega)
    have w4 : IntKind.i64.wrap y = y := wrap_in (by omega) (by omega)
    have w5 : IntKind.i64.wrap (y * 256) = y * 256 := wrap_in (by omega) (by omega)
    have w6 : IntKind.i64.wrap (x + y * 256) = x + y * 256 := wrap_in (by omega) (by omega)
    simp only [w1]
    simp only [seval, go_sem]
    refine ⟨by omega, ?_⟩; ((try simp only [seval, go_sem]);repeat((with_reducible first|refine vJ ?_|refine vK ?_);try simp only [seval, go_sem]))
    (refine ⟨⟨by omega, by omega, byte_is hr (show l.length - 2 < l.length by omega)⟩, ?_⟩; (try simp only [seval, go_sem]))
    (refine ldF.one _ (by first | exact .inl (byte_at hr hx) | exact (byte_at hr hx)) ?_; (try simp only [seval, go_sem]))
    simp only [w2, w3]
    simp only [seval, go_sem]
    (refine ⟨⟨by omega, by omega, byte_is hr (show l.length - 2 + 1 < l.length by omega)⟩, ?_⟩; (try simp only [seval, go_sem]))
    (refine ldF.one _ (by first | exact .inl (byte_at hr hy) | exact (byte_at hr hy)) ?_; (try simp only [seval, go_sem]))
    simp only [w4, w5, w6]
    (try with_reducible refine callM.toT ?_); refine callP (crcOf_s _ _ z ht (by rw [List.length_take]; omega)) rfl rfl ?_; rintro _ _ - ⟨rfl, rfl⟩; ((try simp only [seval, go_sem]);repeat((with_reducible first|refine vJ ?_|refine vK ?_);try simp only [seval, go_sem]))
    (with_reducible refine condI.split (fun hg => ?_) (fun hg => ?_) <;> (try simp only [hg]) <;> (try simp only [seval, go_sem]))
    · ((try simp only [seval, go_sem]);repeat((with_reducible first|refine vJ ?_|refine vK ?_);try simp only [seval, go_sem]))
      refine FinV.frz 0 rfl rfl (fun b z1 hz1 hr1 => ?_)
      simp only [seval, go_sem, Go.Proofs.YtpjaidjnamngaaaGreat.frz, subV, subC, subE, subL]
      (((try simp only [seval, go_sem]);repeat((with_reducible first|refine vJ ?_|refine vK ?_);try simp only [seval, go_sem])); with_reducible refine FinV.of ?_; simp only [finE, finS, gt, look, SV.toV, SC.toV, allV, tupV, zq1, zq2, zq3, zq4, Nat.reduceAdd, Nat.reduceEqDiff, reduceCtorEq, if_true, if_false, reduceIte, Nat.succ_ne_self, true_and, zq5, zq7, zq8])
      rw [crcCut_no (fun e => by rw [← hsum] at e; simp [e] at hg)]
      exact ⟨_, rfl, Sl.nil _ _ _⟩
    · ((try simp only [seval, go_sem]);repeat((with_reducible first|refine vJ ?_|refine vK ?_);try simp only [seval, go_sem]))
      refine ⟨by omega, ?_⟩; ((try simp only [seval, go_sem]);repeat((with_reducible first|refine vJ ?_|refine vK ?_);try simp only [seval, go_sem]))
      have hr1 : RdAt z A 0 (bc (l.take (l.length - 2))) := by rw [show bc (l.take (l.length - 2)) = (bc l).take (l.length - 2) by simp [bc, List.map_take]]; exact hr.take _
      (try with_reducible refine appM.toT ?_); (refine appM_empty 99 atyB rfl (by first | exact .inl ⟨_, rfl⟩ | exact .inr ⟨_, _, rfl⟩) rfl hr1 (by first | omega | (simp <;> omega)) (bc_one _) (by omega) (fun A2 c2 z2 hz2 hc2 hr2 => ?_)); dsimp only at hz2; ((try simp only [seval, go_sem]);repeat((with_reducible first|refine vJ ?_|refine vK ?_);try simp only [seval, go_sem]))
      (((try simp only [seval, go_sem]);repeat((with_reducible first|refine vJ ?_|refine vK ?_);try simp only [seval, go_sem])); with_reducible refine FinV.of ?_; simp only [finE, finS, gt, look, SV.toV, SC.toV, allV, tupV, zq1, zq2, zq3, zq4, Nat.reduceAdd, Nat.reduceEqDiff, reduceCtorEq, if_true, if_false, reduceIte, Nat.succ_ne_self, true_and, zq5, zq7, zq8])
      simp at hg
      rw [crcCut_yes h2 (hsum.1 hg)]
      refine ⟨_, rfl, ?_⟩
      have := By.mk (l := l.take (l.length - 2)) (c := c2) (by simp; omega) (hB.take _) hr2
      rwa [List.length_take, Nat.min_eq_left (by omega)] at this
theorem same_i (f g : Frm) (v u : Value) (z : Zc) (h : By z f.data v) (h' : By z g.data u) (hl : f.data.length ≤ 100000000) (hm : g.data.length ≤ 100000000) : PSpec Tryz.prog 69 [vFrm f v, vFrm g u] z fun v z' => v = .bool (decide (f = g)) ∧ z = z' := by
  obtain ⟨A, c, rfl, hc, hB, hr⟩ := h.form
  obtain ⟨A', c', rfl, hc', hB', hr'⟩ := h'.form
  (refine pspec_enter Tryz.func69 ic69_ok fr69_ok Tryz.ntmps69 ?_; simp only [seval, go_sem, ic69, fr69])
  (try simp only [seval, go_sem]); repeat' (first | (with_reducible refine vsI.id ?_; (try simp only [seval, go_sem])) | (with_reducible refine vcI_cond ?_; (try simp only [seval, go_sem])) | (with_reducible refine guardR.split (fun hg => ?_) (fun hg => ?_) <;> (try simp only [hg]) <;> simp only [seval, go_sem]) | (with_reducible refine condI.split (fun hg => ?_) (fun hg => ?_) <;> (try simp only [hg]) <;> (try simp only [seval, go_sem])) | (with_reducible refine callM.toT ?_) | (refine callP (equalB _ _ _ _ z h h' (by omega) (by omega)) rfl rfl ?_; rintro _ _ - ⟨rfl, rfl⟩; (try simp only [seval, go_sem])))
  all_goals ((((try simp only [seval, go_sem]);repeat((with_reducible first|refine vJ ?_|refine vK ?_);try simp only [seval, go_sem])); with_reducible refine FinV.of ?_; simp only [finE, finS, gt, look, SV.toV, SC.toV, allV, tupV, zq1, zq2, zq3, zq4, Nat.reduceAdd, Nat.reduceEqDiff, reduceCtorEq, if_true, if_false, reduceIte, Nat.succ_ne_self, true_and, zq5, zq7, zq8]); obtain ⟨f1, f2, f3, f4, f5, f6, f7, f8, f9⟩ := f; obtain ⟨g1, g2, g3, g4, g5, g6, g7, g8, g9⟩ := g; simp_all)
theorem frmOk_k (f : Frm) : (f.kind = 1 → frmOk f = (isNum f.seq && isNum f.ack && pieceOk f.seg f.len f.data.length && decide (⟨f.kind, f.seq, f.ack, false, f.fin, 0, f.seg, f.len, f.data⟩ = f))) ∧
    (f.kind = 2 → frmOk f = (isNum f.ack && !(f.poll && f.fin) && inB f.say 0 2 && decide (⟨f.kind, 0, f.ack, f.poll, f.fin, f.say, 0, 0, []⟩ = f))) ∧
    (f.kind = 3 → frmOk f = (pieceOk f.seg f.len f.data.length && decide (⟨f.kind, 0, 0, false, false, 0, f.seg, f.len, f.data⟩ = f))) ∧
    (f.kind = 4 → frmOk f = (inB f.len 1 255 && decide (⟨f.kind, 0, 0, false, false, 0, 0, f.len, []⟩ = f))) ∧ (f.kind ≠ 1 → f.kind ≠ 2 → f.kind ≠ 3 → f.kind ≠ 4 → frmOk f = false) := by
  obtain ⟨kind, seq, ack, poll, fin, say, seg, len, data⟩ := f
  refine ⟨fun h => ?_, fun h => ?_, fun h => ?_, fun h => ?_, fun h1 h2 h3 h4 => ?_⟩
  all_goals (unfold frmOk; simp only at *)
  · subst h; rw [Bool.eq_iff_iff]; simp [@eq_comm Int 0]
    try (constructor <;> intro h <;> simp_all)
  · subst h; rw [Bool.eq_iff_iff]; simp [@eq_comm Int 0]
    try (constructor <;> intro h <;> simp_all)
  · subst h; rw [Bool.eq_iff_iff]; simp [@eq_comm Int 0]
    try (constructor <;> intro h <;> simp_all)
  · subst h; rw [Bool.eq_iff_iff]; simp [@eq_comm Int 0]
    try (constructor <;> intro h <;> simp_all)
  · simp [*]
theorem frmOk_i (f : Frm) (v : Value) (z : Zc) (h : By z f.data v) (hl : f.data.length ≤ 100000000) : PSpec Tryz.prog 39 [vFrm f v] z fun v z' => v = .bool (frmOk f) ∧ z = z' := by
  obtain ⟨A, c, rfl, hc, hB, hr⟩ := h.form
  have h0 : By z [] (.slice none 0 0) := Sl.nil z none 0
  by_cases hk : f.kind = 2
  · obtain ⟨kind, seq, ack, poll, fin, say, seg, len, data⟩ := f
    dsimp only at *
    subst hk
    have k2 := (frmOk_k ⟨2, seq, ack, poll, fin, say, seg, len, data⟩).2.1 rfl
    rw [k2]
    clear k2
    dsimp only
    cases poll <;> cases fin
    · (refine pspec_enter Tryz.func39 ic39_ok fr39_ok Tryz.ntmps39 ?_; simp only [seval, go_sem, ic39, fr39])
      (try simp only [seval, go_sem]); repeat' (first | (with_reducible refine vsI.id ?_; (try simp only [seval, go_sem])) | (with_reducible refine vcI_cond ?_; (try simp only [seval, go_sem])) | (with_reducible refine guardR.split (fun hg => ?_) (fun hg => ?_) <;> (try simp only [hg]) <;> simp only [seval, go_sem]) | (with_reducible refine condI.split (fun hg => ?_) (fun hg => ?_) <;> (try simp only [hg]) <;> (try simp only [seval, go_sem])) | (with_reducible refine callM.toT ?_) | (refine callP (isnum _ _) rfl rfl ?_; rintro _ _ - ⟨rfl, rfl⟩; (try simp only [seval, go_sem])) | (refine callP (in_i _ _ _ _) rfl rfl ?_; rintro _ _ - ⟨rfl, rfl⟩; (try simp only [seval, go_sem])) | (refine callP (same_i ⟨2, 0, ack, false, false, say, 0, 0, []⟩ ⟨2, seq, ack, false, false, say, seg, len, data⟩ _ _ z h0 h (by simp) hl) rfl rfl ?_; rintro _ _ - ⟨rfl, rfl⟩; (try simp only [seval, go_sem])))
      all_goals (((try simp only [seval, go_sem]);repeat((with_reducible first|refine vJ ?_|refine vK ?_);try simp only [seval, go_sem])); with_reducible refine FinV.of ?_; simp only [finE, finS, gt, look, SV.toV, SC.toV, allV, tupV, zq1, zq2, zq3, zq4, Nat.reduceAdd, Nat.reduceEqDiff, reduceCtorEq, if_true, if_false, reduceIte, Nat.succ_ne_self, true_and, zq5, zq7, zq8])
      all_goals simp [*]
    · (refine pspec_enter Tryz.func39 ic39_ok fr39_ok Tryz.ntmps39 ?_; simp only [seval, go_sem, ic39, fr39])
      (try simp only [seval, go_sem]); repeat' (first | (with_reducible refine vsI.id ?_; (try simp only [seval, go_sem])) | (with_reducible refine vcI_cond ?_; (try simp only [seval, go_sem])) | (with_reducible refine guardR.split (fun hg => ?_) (fun hg => ?_) <;> (try simp only [hg]) <;> simp only [seval, go_sem]) | (with_reducible refine condI.split (fun hg => ?_) (fun hg => ?_) <;> (try simp only [hg]) <;> (try simp only [seval, go_sem])) | (with_reducible refine callM.toT ?_) | (refine callP (isnum _ _) rfl rfl ?_; rintro _ _ - ⟨rfl, rfl⟩; (try simp only [seval, go_sem])) | (refine callP (in_i _ _ _ _) rfl rfl ?_; rintro _ _ - ⟨rfl, rfl⟩; (try simp only [seval, go_sem])) | (refine callP (same_i ⟨2, 0, ack, false, true, say, 0, 0, []⟩ ⟨2, seq, ack, false, true, say, seg, len, data⟩ _ _ z h0 h (by simp) hl) rfl rfl ?_; rintro _ _ - ⟨rfl, rfl⟩; (try simp only [seval, go_sem])))
      all_goals (((try simp only [seval, go_sem]);repeat((with_reducible first|refine vJ ?_|refine vK ?_);try simp only [seval, go_sem])); with_reducible refine FinV.of ?_; simp only [finE, finS, gt, look, SV.toV, SC.toV, allV, tupV, zq1, zq2, zq3, zq4, Nat.reduceAdd, Nat.reduceEqDiff, reduceCtorEq, if_true, if_false, reduceIte, Nat.succ_ne_self, true_and, zq5, zq7, zq8])
      all_goals simp [*]
    · (refine pspec_enter Tryz.func39 ic39_ok fr39_ok Tryz.ntmps39 ?_; simp only [seval, go_sem, ic39, fr39])
      (try simp only [seval, go_sem]); repeat' (first | (with_reducible refine vsI.id ?_; (try simp only [seval, go_sem])) | (with_reducible refine vcI_cond ?_; (try simp only [seval, go_sem])) | (with_reducible refine guardR.split (fun hg => ?_) (fun hg => ?_) <;> (try simp only [hg]) <;> simp only [seval, go_sem]) | (with_reducible refine condI.split (fun hg => ?_) (fun hg => ?_) <;> (try simp only [hg]) <;> (try simp only [seval, go_sem])) | (with_reducible refine callM.toT ?_) | (refine callP (isnum _ _) rfl rfl ?_; rintro _ _ - ⟨rfl, rfl⟩; (try simp only [seval, go_sem])) | (refine callP (in_i _ _ _ _) rfl rfl ?_; rintro _ _ - ⟨rfl, rfl⟩; (try simp only [seval, go_sem])) | (refine callP (same_i ⟨2, 0, ack, true, false, say, 0, 0, []⟩ ⟨2, seq, ack, true, false, say, seg, len, data⟩ _ _ z h0 h (by simp) hl) rfl rfl ?_; rintro _ _ - ⟨rfl, rfl⟩; (try simp only [seval, go_sem])))
      all_goals (((try simp only [seval, go_sem]);repeat((with_reducible first|refine vJ ?_|refine vK ?_);try simp only [seval, go_sem])); with_reducible refine FinV.of ?_; simp only [finE, finS, gt, look, SV.toV, SC.toV, allV, tupV, zq1, zq2, zq3, zq4, Nat.reduceAdd, Nat.reduceEqDiff, reduceCtorEq, if_true, if_false, reduceIte, Nat.succ_ne_self, true_and, zq5, zq7, zq8])
      all_goals simp [*]
    · (refine pspec_enter Tryz.func39 ic39_ok fr39_ok Tryz.ntmps39 ?_; simp only [seval, go_sem, ic39, fr39])
      (try simp only [seval, go_sem]); repeat' (first | (with_reducible refine vsI.id ?_; (try simp only [seval, go_sem])) | (with_reducible refine vcI_cond ?_; (try simp only [seval, go_sem])) | (with_reducible refine guardR.split (fun hg => ?_) (fun hg => ?_) <;> (try simp only [hg]) <;> simp only [seval, go_sem]) | (with_reducible refine condI.split (fun hg => ?_) (fun hg => ?_) <;> (try simp only [hg]) <;> (try simp only [seval, go_sem])) | (with_reducible refine callM.toT ?_) | (refine callP (isnum _ _) rfl rfl ?_; rintro _ _ - ⟨rfl, rfl⟩; (try simp only [seval, go_sem])) | (refine callP (in_i _ _ _ _) rfl rfl ?_; rintro _ _ - ⟨rfl, rfl⟩; (try simp only [seval, go_sem])) | (refine callP (same_i ⟨2, 0, ack, true, true, say, 0, 0, []⟩ ⟨2, seq, ack, true, true, say, seg, len, data⟩ _ _ z h0 h (by simp) hl) rfl rfl ?_; rintro _ _ - ⟨rfl, rfl⟩; (try simp only [seval, go_sem])))
      all_goals (((try simp only [seval, go_sem]);repeat((with_reducible first|refine vJ ?_|refine vK ?_);try simp only [seval, go_sem])); with_reducible refine FinV.of ?_; simp only [finE, finS, gt, look, SV.toV, SC.toV, allV, tupV, zq1, zq2, zq3, zq4, Nat.reduceAdd, Nat.reduceEqDiff, reduceCtorEq, if_true, if_false, reduceIte, Nat.succ_ne_self, true_and, zq5, zq7, zq8])
      all_goals simp [*]
  · (refine pspec_enter Tryz.func39 ic39_ok fr39_ok Tryz.ntmps39 ?_; simp only [seval, go_sem, ic39, fr39])
    (try simp only [seval, go_sem]); repeat' (first | (with_reducible refine vsI.id ?_; (try simp only [seval, go_sem])) | (with_reducible refine vcI_cond ?_; (try simp only [seval, go_sem])) | (with_reducible refine guardR.split (fun hg => ?_) (fun hg => ?_) <;> (try simp only [hg]) <;> simp only [seval, go_sem]) | (with_reducible refine condI.split (fun hg => ?_) (fun hg => ?_) <;> (try simp only [hg]) <;> (try simp only [seval, go_sem])) | (with_reducible refine callM.toT ?_) | (refine callP (isnum _ _) rfl rfl ?_; rintro _ _ - ⟨rfl, rfl⟩; (try simp only [seval, go_sem])) | (refine callP (pieceok_i _ _ _ _ _ _ (by omega)) rfl rfl ?_; rintro _ _ - ⟨rfl, rfl⟩; (try simp only [seval, go_sem])) | (refine callP (in_i _ _ _ _) rfl rfl ?_; rintro _ _ - ⟨rfl, rfl⟩; (try simp only [seval, go_sem])) | (refine callP (same_i ⟨f.kind, f.seq, f.ack, false, f.fin, 0, f.seg, f.len, f.data⟩ f _ _ z h h hl hl) rfl rfl ?_; rintro _ _ - ⟨rfl, rfl⟩; (try simp only [seval, go_sem])) | (refine callP (same_i ⟨f.kind, 0, 0, false, false, 0, f.seg, f.len, f.data⟩ f _ _ z h h hl hl) rfl rfl ?_; rintro _ _ - ⟨rfl, rfl⟩; (try simp only [seval, go_sem])) | (refine callP (same_i ⟨f.kind, 0, 0, false, false, 0, 0, f.len, []⟩ f _ _ z h0 h (by simp) hl) rfl rfl ?_; rintro _ _ - ⟨rfl, rfl⟩; (try simp only [seval, go_sem])))
    all_goals (try (exfalso; simp_all; done))
    all_goals (((try simp only [seval, go_sem]);repeat((with_reducible first|refine vJ ?_|refine vK ?_);try simp only [seval, go_sem])); with_reducible refine FinV.of ?_; simp only [finE, finS, gt, look, SV.toV, SC.toV, allV, tupV, zq1, zq2, zq3, zq4, Nat.reduceAdd, Nat.reduceEqDiff, reduceCtorEq, if_true, if_false, reduceIte, Nat.succ_ne_self, true_and, zq5, zq7, zq8])
    all_goals (obtain ⟨k1, k2, k3, k4, k5⟩ := frmOk_k f)
    all_goals (simp only [beq_iff_eq, beq_eq_false_iff_ne, ne_eq, and_true, Bool.not_eq_true', Bool.not_eq_false'] at *)
    all_goals (first | rw [k1 (by assumption)] | rw [k3 (by assumption)] | rw [k4 (by assumption)] | rw [k5 (by assumption) (by assumption) (by assumption) (by assumption)])
    all_goals (clear k1 k2 k3 k4 k5; simp [*])
theorem frmOk_s (f : Frm) (v : Value) (z : Zc) (h : By z f.data v) (hl : f.data.length ≤ 100000000) : PSpec Tryz.prog 105 [vFrm f v] z fun v z' => v = .bool (frmOk f) ∧ z = z' := by
  obtain ⟨A, c, rfl, hc, hB, hr⟩ := h.form
  (refine pspec_enter Tryz.func105 ic105_ok fr105_ok Tryz.ntmps105 ?_; simp only [seval, go_sem, ic105, fr105])
  (try simp only [seval, go_sem]); repeat' (first | (with_reducible refine vsI.id ?_; (try simp only [seval, go_sem])) | (with_reducible refine vcI_cond ?_; (try simp only [seval, go_sem])) | (with_reducible refine guardR.split (fun hg => ?_) (fun hg => ?_) <;> (try simp only [hg]) <;> simp only [seval, go_sem]) | (with_reducible refine condI.split (fun hg => ?_) (fun hg => ?_) <;> (try simp only [hg]) <;> (try simp only [seval, go_sem])) | (with_reducible refine callM.toT ?_) | (refine callP (in_s _ _ _ _) rfl rfl ?_; rintro _ _ - ⟨rfl, rfl⟩; (try simp only [seval, go_sem])) | (refine callP (l2seg_s f _ _ _ (by omega)) rfl rfl ?_; rintro _ _ - ⟨rfl, rfl⟩; (try simp only [seval, go_sem])))
  all_goals (try ((((try simp only [seval, go_sem]);repeat((with_reducible first|refine vJ ?_|refine vK ?_);try simp only [seval, go_sem])); with_reducible refine FinV.of ?_; simp only [finE, finS, gt, look, SV.toV, SC.toV, allV, tupV, zq1, zq2, zq3, zq4, Nat.reduceAdd, Nat.reduceEqDiff, reduceCtorEq, if_true, if_false, reduceIte, Nat.succ_ne_self, true_and, zq5, zq7, zq8]); simp_all [frmOk, isNum]; done))
  all_goals ((((try simp only [seval, go_sem]);repeat((with_reducible first|refine vJ ?_|refine vK ?_);try simp only [seval, go_sem])); with_reducible refine FinV.of ?_; simp only [finE, finS, gt, look, SV.toV, SC.toV, allV, tupV, zq1, zq2, zq3, zq4, Nat.reduceAdd, Nat.reduceEqDiff, reduceCtorEq, if_true, if_false, reduceIte, Nat.succ_ne_self, true_and, zq5, zq7, zq8]); simp_all [frmOk, isNum]; rw [Bool.eq_iff_iff]; simp)
theorem head_bc {f : Frm} (h : frmOk f = true) : [Value.int .u8 (IntKind.u8.wrap f.kind), .int .u8 (IntKind.u8.wrap (IntKind.i64.wrap (IntKind.i64.wrap (f.seq * 16) + f.ack))),
    .int .u8 (IntKind.u8.wrap (IntKind.i64.wrap (IntKind.i64.wrap (IntKind.i64.wrap (bit f.poll + IntKind.i64.wrap (2 * bit f.fin)) + IntKind.i64.wrap (4 * f.say)) + IntKind.i64.wrap (16 * f.seg)))),
    .int .u8 (IntKind.u8.wrap f.len), .int .u8 (IntKind.u8.wrap (f.data.length : Int))] = bc (frmHead f) := by
  have hb := frmOk_bound h
  have h1 := bit_01 f.poll
  have h2 := bit_01 f.fin
  simp only [frmHead, bc, List.map_cons, List.map_nil]
  simp only [List.cons.injEq, Value.int.injEq, true_and, and_true, IntKind.wrap_u8, IntKind.wrap_i64]
  omega
theorem head_by {f : Frm} {z : Zc} {A : Option Addr} {c n : Nat} (h : frmOk f = true) (hB : Bys f.data) (hc : 5 + f.data.length ≤ c) {cs : List Value} (hcs : cs = bc (frmHead f)) (hr : RdAt z A 0 (cs ++ bc f.data)) (hn : n = 5 + f.data.length) : By z (frmHead f ++ f.data) (.slice A n c) := by
  subst hcs
  have : n = (frmHead f ++ f.data).length := by rw [hn, List.length_append]; rfl
  rw [this]
  exact By.mk (by rw [← this, hn]; exact hc) ((frmHead_bys h).append hB) (by simpa [bc] using hr)
theorem frmRead_no {l : List Int} (h : crcCut l = none) : frmRead l = none := by unfold frmRead; rw [h]
theorem frmRead_short {l b : List Int} (h : crcCut l = some b) (hb : b.length < 5) : frmRead l = none := by unfold frmRead; rw [h]; simp only; rw [if_neg (by omega)]
theorem five {b : List Int} (h : 5 ≤ b.length) : ∃ b0 b1 b2 b3 b4 d, b = b0 :: b1 :: b2 :: b3 :: b4 :: d := by
  match b, h with
  | b0 :: b1 :: b2 :: b3 :: b4 :: d, _ => exact ⟨_, _, _, _, _, _, rfl⟩
theorem crcPut_inj {l m : List Int} (h : crcPut l = crcPut m) : l = m := by
  have h1 := crcPut_take l
  rw [h, crcPut_take] at h1
  exact h1.symm
theorem frmHead_of {x0 x1 x2 x3 x4 : Int} {r : List Int} (y1 : 0 ≤ x1 ∧ x1 ≤ 255) (y2 : 0 ≤ x2 ∧ x2 ≤ 255) : frmHead (frmOf (x0 :: x1 :: x2 :: x3 :: x4 :: r)) ++ (frmOf (x0 :: x1 :: x2 :: x3 :: x4 :: r)).data = x0 :: x1 :: x2 :: x3 :: (r.length : Int) :: r := by
  have e1 : x1 / 16 * 16 + x1 % 16 = x1 := by omega
  have e2 : bit (decide (x2 % 2 = 1)) + 2 * bit (decide (x2 / 2 % 2 = 1)) + 4 * (x2 / 4 % 4) + 16 * (x2 / 16) = x2 := by
    unfold bit
    simp only [decide_eq_true_eq]
    split <;> split <;> omega
  simp only [frmHead, frmOf, List.cons_append, List.nil_append, List.getD_cons_zero, List.getD_cons_succ, List.drop_succ_cons, List.drop_zero]
  rw [e1, e2]
theorem frmRead_ref {l : List Int} {x0 x1 x2 x3 x4 : Int} {r : List Int} (hc : crcCut l = some (x0 :: x1 :: x2 :: x3 :: x4 :: r)) (y1 : 0 ≤ x1 ∧ x1 ≤ 255) (y2 : 0 ≤ x2 ∧ x2 ≤ 255) :
    frmRead l = if x4 = (r.length : Int) ∧ r.length ≤ 8 ∧ frmOk (frmOf (x0 :: x1 :: x2 :: x3 :: x4 :: r)) = true then some (frmOf (x0 :: x1 :: x2 :: x3 :: x4 :: r)) else none := by
  have hl := crcCut_some hc
  have hh := frmHead_of (x0 := x0) (x3 := x3) (x4 := x4) (r := r) y1 y2
  have hd : (frmOf (x0 :: x1 :: x2 :: x3 :: x4 :: r)).data = r := rfl
  have h0 : frmRead l = if 5 ≤ (x0 :: x1 :: x2 :: x3 :: x4 :: r).length ∧ frmBytes (frmOf (x0 :: x1 :: x2 :: x3 :: x4 :: r)) = l then some (frmOf (x0 :: x1 :: x2 :: x3 :: x4 :: r)) else none := by
    unfold frmRead; rw [hc]
  rw [h0]
  have hi : (5 ≤ (x0 :: x1 :: x2 :: x3 :: x4 :: r).length ∧ frmBytes (frmOf (x0 :: x1 :: x2 :: x3 :: x4 :: r)) = l) ↔ (x4 = (r.length : Int) ∧ r.length ≤ 8 ∧ frmOk (frmOf (x0 :: x1 :: x2 :: x3 :: x4 :: r)) = true) := by
    constructor
    · rintro ⟨_, hb⟩
      by_cases ho : frmOk (frmOf (x0 :: x1 :: x2 :: x3 :: x4 :: r)) = true
      · have hbd := (frmOk_bound ho).2.2.2.2.2.2
        rw [hd] at hbd
        rw [frmBytes_ok ho, hh, hl] at hb
        have := crcPut_inj hb
        simp only [List.cons.injEq, true_and, and_true] at this
        exact ⟨this.symm, hbd, ho⟩
      · exfalso
        have hb' := hb
        unfold frmBytes at hb'
        rw [if_neg ho, hl] at hb'
        have := congrArg List.length hb'
        rw [crcPut_length] at this
        simp at this
    · rintro ⟨h4, _, ho⟩
      refine ⟨by simp, ?_⟩
      rw [frmBytes_ok ho, hh, hl, h4]
  by_cases h : x4 = (r.length : Int) ∧ r.length ≤ 8 ∧ frmOk (frmOf (x0 :: x1 :: x2 :: x3 :: x4 :: r)) = true
  · rw [if_pos h, if_pos (hi.2 h)]
  · rw [if_neg h, if_neg (fun k => h (hi.1 k))]
theorem frmRead_s (l : List Int) (v : Value) (z : Zc) (h : By z l v) (hl : l.length ≤ 100000) : PSpec Tryz.prog 120 [v] z fun v z' => match frmRead l with
    | some f => ∃ u, v = .tuple #[vFrm f u, .bool true] ∧ By z' f.data u
    | none => v = .tuple #[vFrm frm0 (.slice none 0 0), .bool false] := by
  obtain ⟨A, c, rfl, hc, hB, hr⟩ := h.form
  (refine pspec_enter Tryz.func120 ic120_ok fr120_ok Tryz.ntmps120 ?_; simp only [seval, go_sem, ic120, fr120])
  ((try simp only [seval, go_sem]);repeat((with_reducible first|refine vJ ?_|refine vK ?_);try simp only [seval, go_sem]))
  (try with_reducible refine callM.toT ?_); refine callP (crcCut_s l _ z h (by omega)) rfl rfl ?_; rintro v z1 hz1 hv; ((try simp only [seval, go_sem]);repeat((with_reducible first|refine vJ ?_|refine vK ?_);try simp only [seval, go_sem]))
  obtain ⟨u, hv⟩ := hv
  cases hcut : crcCut l with
  | none =>
    rw [hcut] at hv
    obtain ⟨rfl, hv⟩ := hv
    obtain ⟨A1, c1, rfl, _⟩ := hv.form
    (((try simp only [seval, go_sem]);repeat((with_reducible first|refine vJ ?_|refine vK ?_);try simp only [seval, go_sem])); with_reducible refine FinV.of ?_; simp only [finE, finS, gt, look, SV.toV, SC.toV, allV, tupV, zq1, zq2, zq3, zq4, Nat.reduceAdd, Nat.reduceEqDiff, reduceCtorEq, if_true, if_false, reduceIte, Nat.succ_ne_self, true_and, zq5, zq7, zq8])
    rw [frmRead_no hcut]
    rfl
  | some b =>
    rw [hcut] at hv
    obtain ⟨rfl, hb⟩ := hv
    obtain ⟨A1, c1, rfl, hc1, hB1, hr1⟩ := hb.form
    have hlb : b.length + 2 = l.length := by rw [crcCut_some hcut, crcPut_length]
    ((try simp only [seval, go_sem]);repeat((with_reducible first|refine vJ ?_|refine vK ?_);try simp only [seval, go_sem]))
    (with_reducible refine guardR.split (fun hg => ?_) (fun hg => ?_) <;> (try simp only [hg]) <;> simp only [seval, go_sem])
    · (((try simp only [seval, go_sem]);repeat((with_reducible first|refine vJ ?_|refine vK ?_);try simp only [seval, go_sem])); with_reducible refine FinV.of ?_; simp only [finE, finS, gt, look, SV.toV, SC.toV, allV, tupV, zq1, zq2, zq3, zq4, Nat.reduceAdd, Nat.reduceEqDiff, reduceCtorEq, if_true, if_false, reduceIte, Nat.succ_ne_self, true_and, zq5, zq7, zq8])
      rw [frmRead_short hcut (by simp at hg; omega)]
      rfl
    · obtain ⟨b0, b1, b2, b3, b4, d, rfl⟩ := five (b := b) (by simp at hg; omega)
      have q0 := hB1 b0 (by simp)
      have q1 := hB1 b1 (by simp)
      have q2 := hB1 b2 (by simp)
      have q3 := hB1 b3 (by simp)
      have q4 := hB1 b4 (by simp)
      have w4 : IntKind.i64.wrap b4 = b4 := wrap_in (by omega) (by omega)
      have hl5 : ∀ k : Nat, k < 5 → IsAt A1 := fun k hk => byte_is hr1 (show k < (b0 :: b1 :: b2 :: b3 :: b4 :: d).length by simp; omega)
      ((try simp only [seval, go_sem]);repeat((with_reducible first|refine vJ ?_|refine vK ?_);try simp only [seval, go_sem]))
      have hrf := frmRead_ref hcut q1 q2
      have hld : d.length ≤ 100000 := by simp at hlb; omega
      have w5 : IntKind.i64.wrap (((d.length + 1 + 1 + 1 + 1 + 1 : Nat) : Int) - 5) = (d.length : Int) := by rw [wrap_in (by omega) (by omega)]; omega
      refine ⟨⟨by omega, hl5 4 (by omega)⟩, ?_⟩
      (refine ldF.one _ (by first | exact .inl (byte_at hr1 (k := 4) rfl) | exact (byte_at hr1 (k := 4) rfl)) ?_; (try simp only [seval, go_sem]))
      simp only [w4, w5]
      (try simp only [seval, go_sem]); repeat' (first | (with_reducible refine vsI.id ?_; (try simp only [seval, go_sem])) | (with_reducible refine vcI_cond ?_; (try simp only [seval, go_sem])) | (with_reducible refine guardR.split (fun hg => ?_) (fun hg => ?_) <;> (try simp only [hg]) <;> simp only [seval, go_sem]) | (with_reducible refine condI.split (fun hg => ?_) (fun hg => ?_) <;> (try simp only [hg]) <;> (try simp only [seval, go_sem])) | (with_reducible refine callM.toT ?_))
      all_goals (try ((((try simp only [seval, go_sem]);repeat((with_reducible first|refine vJ ?_|refine vK ?_);try simp only [seval, go_sem])); with_reducible refine FinV.of ?_; simp only [finE, finS, gt, look, SV.toV, SC.toV, allV, tupV, zq1, zq2, zq3, zq4, Nat.reduceAdd, Nat.reduceEqDiff, reduceCtorEq, if_true, if_false, reduceIte, Nat.succ_ne_self, true_and, zq5, zq7, zq8]); rw [hrf, if_neg (fun k => by simp at hg; omega)]; rfl))
      have h4 : b4 = (d.length : Int) := by simp_all
      have h8 : d.length ≤ 8 := by simp at *; omega
      (with_reducible refine joinV.id ?_; simp only [seval, go_sem])
      refine ⟨⟨by omega, hl5 0 (by omega)⟩, ?_⟩
      (refine ldF.one _ (by first | exact .inl (byte_at hr1 (k := 0) rfl) | exact (byte_at hr1 (k := 0) rfl)) ?_; (try simp only [seval, go_sem]))
      refine ⟨⟨by omega, hl5 1 (by omega)⟩, ?_⟩
      (refine ldF.one _ (by first | exact .inl (byte_at hr1 (k := 1) rfl) | exact (byte_at hr1 (k := 1) rfl)) ?_; (try simp only [seval, go_sem]))
      refine ⟨⟨by omega, hl5 1 (by omega)⟩, ?_⟩
      (refine ldF.one _ (by first | exact .inl (byte_at hr1 (k := 1) rfl) | exact (byte_at hr1 (k := 1) rfl)) ?_; (try simp only [seval, go_sem]))
      refine ⟨⟨by omega, hl5 2 (by omega)⟩, ?_⟩
      (refine ldF.one _ (by first | exact .inl (byte_at hr1 (k := 2) rfl) | exact (byte_at hr1 (k := 2) rfl)) ?_; (try simp only [seval, go_sem]))
      refine ⟨⟨by omega, hl5 2 (by omega)⟩, ?_⟩
      (refine ldF.one _ (by first | exact .inl (byte_at hr1 (k := 2) rfl) | exact (byte_at hr1 (k := 2) rfl)) ?_; (try simp only [seval, go_sem]))
      refine ⟨⟨by omega, hl5 2 (by omega)⟩, ?_⟩
      (refine ldF.one _ (by first | exact .inl (byte_at hr1 (k := 2) rfl) | exact (byte_at hr1 (k := 2) rfl)) ?_; (try simp only [seval, go_sem]))
      refine ⟨⟨by omega, hl5 2 (by omega)⟩, ?_⟩
      (refine ldF.one _ (by first | exact .inl (byte_at hr1 (k := 2) rfl) | exact (byte_at hr1 (k := 2) rfl)) ?_; (try simp only [seval, go_sem]))
      refine ⟨⟨by omega, hl5 3 (by omega)⟩, ?_⟩
      (refine ldF.one _ (by first | exact .inl (byte_at hr1 (k := 3) rfl) | exact (byte_at hr1 (k := 3) rfl)) ?_; (try simp only [seval, go_sem]))
      have hd : By z1 d (.slice (cutA A1 c1 5 1) (d.length + 1 + 1 + 1 + 1 + 1 - 5) (c1 - 5)) := hb.drop (k := 5)
      obtain ⟨Ad, cd, hde, hcd, hBd, hrd⟩ := hd.form
      have hde' : (.slice (cutA A1 c1 5 1) (d.length + 1 + 1 + 1 + 1 + 1 - 5) (c1 - 5) : Value) = .slice Ad d.length cd := hde
      simp only [seval] at hde'
      simp only [hde']
      refine ⟨by omega, ?_⟩
      repeat' refine And.intro ?_ ?_
      all_goals
        (try with_reducible refine appM.toT ?_); (refine appM_empty 99 atyB rfl (by first | exact .inl ⟨_, rfl⟩ | exact .inr ⟨_, _, rfl⟩) rfl hrd (by first | omega | (simp <;> omega)) (bc_one _) (by omega) (fun A2 c2 z2 hz2 hc2 hr2 => ?_)); dsimp only at hz2; ((try simp only [seval, go_sem]);repeat((with_reducible first|refine vJ ?_|refine vK ?_);try simp only [seval, go_sem]))
      all_goals
        have e0 : IntKind.i64.wrap b0 = b0 := wrap_in (by omega) (by omega)
        have e3 : IntKind.i64.wrap b3 = b3 := wrap_in (by omega) (by omega)
        have e1 : IntKind.i64.wrap (IntKind.u8.wrap (b1.tdiv 16)) = b1 / 16 := by rw [Int.tdiv_eq_ediv_of_nonneg (by omega), IntKind.wrap_u8, IntKind.wrap_i64]; omega
        have e2 : IntKind.i64.wrap (b1.tmod 16) = b1 % 16 := by rw [Int.tmod_eq_emod_of_nonneg (by omega), IntKind.wrap_i64]; omega
        have e4 : (b2.tmod 2 == 1) = decide (b2 % 2 = 1) := by rw [Int.tmod_eq_emod_of_nonneg (by omega), Bool.eq_iff_iff]; simp
        have e5 : ((IntKind.u8.wrap (b2.tdiv 2)).tmod 2 == 1) = decide (b2 / 2 % 2 = 1) := by
          rw [Int.tdiv_eq_ediv_of_nonneg (by omega), IntKind.wrap_u8, Int.tmod_eq_emod_of_nonneg (by omega), Bool.eq_iff_iff]; simp <;> omega
        have e6 : IntKind.i64.wrap ((IntKind.u8.wrap (b2.tdiv 4)).tmod 4) = b2 / 4 % 4 := by
          rw [Int.tdiv_eq_ediv_of_nonneg (by omega), IntKind.wrap_u8, Int.tmod_eq_emod_of_nonneg (by omega), IntKind.wrap_i64]; omega
        have e7 : IntKind.i64.wrap (IntKind.u8.wrap (b2.tdiv 16)) = b2 / 16 := by rw [Int.tdiv_eq_ediv_of_nonneg (by omega), IntKind.wrap_u8, IntKind.wrap_i64]; omega
        have hd2 : By z2 (frmOf (b0 :: b1 :: b2 :: b3 :: b4 :: d)).data (.slice A2 d.length c2) := By.mk hc2 hBd hr2
        simp only [e0, e1, e2, e3, e4, e5, e6, e7]
      all_goals
        (try with_reducible refine callM.toT ?_); refine callP (frmOk_s (frmOf (b0 :: b1 :: b2 :: b3 :: b4 :: d)) _ z2 hd2 (by show d.length ≤ _; omega)) rfl rfl ?_; rintro _ _ - ⟨rfl, rfl⟩; ((try simp only [seval, go_sem]);repeat((with_reducible first|refine vJ ?_|refine vK ?_);try simp only [seval, go_sem]))
      all_goals (with_reducible refine condI.split (fun hg => ?_) (fun hg => ?_) <;> (try simp only [hg]) <;> (try simp only [seval, go_sem]))
      all_goals (((try simp only [seval, go_sem]);repeat((with_reducible first|refine vJ ?_|refine vK ?_);try simp only [seval, go_sem])); with_reducible refine FinV.of ?_; simp only [finE, finS, gt, look, SV.toV, SC.toV, allV, tupV, zq1, zq2, zq3, zq4, Nat.reduceAdd, Nat.reduceEqDiff, reduceCtorEq, if_true, if_false, reduceIte, Nat.succ_ne_self, true_and, zq5, zq7, zq8])
      all_goals simp only [Bool.not_eq_true', Bool.not_eq_false'] at hg
      all_goals first
        | (rw [hrf, if_neg (fun k => by rw [hg] at k; exact absurd k.2.2 (by decide))]; rfl)
        | (rw [hrf, if_pos ⟨h4, h8, hg⟩]; exact ⟨_, rfl, hd2⟩)
end Go.Proofs.YtpjaidjnamngaaaGreat
