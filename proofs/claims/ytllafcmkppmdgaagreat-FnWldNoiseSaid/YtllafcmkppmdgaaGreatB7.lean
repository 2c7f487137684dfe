/- Codes of functions, group Crc. · Sums of bytes, by the program and by its reference. · Frames, by the program and by its reference. · Frames as bytes, by the program and by its reference. · Frames read, by the program and by its reference. · Frames read, by the reference. -/
import Derived.Test.YtllafcmkppmdgaaGreatB6
import Derived.Test.YtllafcmkppmdgaaGreatProg
namespace Go.Proofs.YtllafcmkppmdgaaGreat
open Go.RowKit
set_option linter.unusedVariables false
set_option linter.unusedSimpArgs false
set_option maxRecDepth 100000
set_option maxHeartbeats 4000000
set_option linter.defProp false
def k148 := mkK [(.t 4)] [] [] Tryz.func148 Tryz.ntmps148 rfl
def k114 := mkK [(.t 2)] [] [] Tryz.func114 Tryz.ntmps114 rfl
def k80 := mkK [(.t 2)] [] [] Tryz.func80 Tryz.ntmps80 rfl
def k55 := mkK [(.t 2),(.t 3)] [] [] Tryz.func55 Tryz.ntmps55 rfl
def k57 := mkK [(.t 4)] [] [(6,[],.l [0,4,8,13,16,20,24,29,32])] Tryz.func57 Tryz.ntmps57 rfl
def k113 := mkK [(.t 4)] [] [] Tryz.func113 Tryz.ntmps113 rfl
def k79 := mkK [(.t 2)] [] [] Tryz.func79 Tryz.ntmps79 rfl
def k54 := mkK [(.t 2)] [] [] Tryz.func54 Tryz.ntmps54 rfl
def k53 := mkK [(.t 2),(.t 3)] [] [(2,[],.l [0,4,8,12,16,20,28,32,36,41,44,48,52,56,60,65,68,72,76,26,80,84])] Tryz.func53 Tryz.ntmps53 rfl
def k116 := mkK [(.t 4)] [] [] Tryz.func116 Tryz.ntmps116 rfl
def k83 := mkK [(.t 2)] [] [(5,[3],.l [0,5,8,13,16,21,24,29,32,37,40,45,48,54,56,62,64,70,72,78,80,86,88,94]),(8,[3],.l [0,5,8,13,16,21,24,29,32,38,40,46,48,54,56,62]),(11,[3],.l [0,5,8,13,16,21,24,30,32,38,40,46])] Tryz.func83 Tryz.ntmps83 rfl
def k58 := mkK [(.t 2)] [] [(3,[],.l [0,5,8,12,17,20,24,29,32,36,40,45,52,57,72,77,80,88,93,96,108,113,116,120,125,128,132,50,62,64,68,84,100,104,138,140])] Tryz.func58 Tryz.ntmps58 rfl
def k30 := mkK [(.c 2 9 true),(.t 3)] [] [(5,[],.f [0,4,9,12,16,20,25,28,32,36,40,45,48,52,56,60,64,68,72,76,80,84,88,92,96,100,104,109,112,116,120] (.l [126,128,134,139]) (.l [134,126,128,139]))] Tryz.func30 Tryz.ntmps30 rfl
def k59 := mkK [(.t 2)] [] [] Tryz.func59 Tryz.ntmps59 rfl
def k50 := mkK [(.t 2)] [] [(3,[],.l [0,5,8,12,17,20,24,29,32,36,40,45,52,57,72,77,80,88,93,96,108,113,116,120,125,128,132,50,62,64,68,84,100,104,138,140])] Tryz.func50 Tryz.ntmps50 rfl
def k31 := mkK [(.c 2 9 true),(.t 3)] [] [(4,[],.f [0,4,9,12,16,20,25,28,32,36,40,45,48,52,56,60,65,68,72,76,80,85,88,92,96,100,104,109,112,116,120,124,128,133,136,140,144,148,153,156,164,168] (.f [162] (.l [174,176,182,187]) (.l [182,174,176,187])) (.l [182,162,174,176,187]))] Tryz.func31 Tryz.ntmps31 rfl
def k162 := mkK [(.t 4)] [] [] Tryz.func162 Tryz.ntmps162 rfl
def k149 := mkK [(.t 4)] [] [] Tryz.func149 Tryz.ntmps149 rfl
def k174 := mkK [(.c 4 2 true),(.t 5),(.t 6)] [] [(1,[],.l [0,5,12,17,10,22,26,28])] Tryz.func174 Tryz.ntmps174 rfl
def k179 := mkK [(.c 0 2 true),(.t 1),(.t 2)] [] [] Tryz.func179 Tryz.ntmps179 rfl
def k171 := mkK [(.c 4 2 true),(.t 5),(.t 6)] [] [(2,[],.l [4,9,16,21,2,14,26,28])] Tryz.func171 Tryz.ntmps171 rfl
def k130 := mkK [(.t 2)] [] [] Tryz.func130 Tryz.ntmps130 rfl
def k103 := mkK [(.t 2)] [] [] Tryz.func103 Tryz.ntmps103 rfl
def k166 := mkK [(.t 4)] [] [] Tryz.func166 Tryz.ntmps166 rfl
def k129 := mkK [(.t 2)] [] [(5,[],.l [0,4,8,12,16,21,24,28,32,36,41,48,52,56,60,65,46,70,72,78,82,84])] Tryz.func129 Tryz.ntmps129 rfl
def k98 := mkK [(.t 2)] [] [] Tryz.func98 Tryz.ntmps98 rfl
set_option maxHeartbeats 1000000
theorem bc_one (l : List Int) : ∀ u ∈ bc l, u.oneCell' = true := by intro u hu; obtain ⟨x, _, rfl⟩ := List.mem_map.1 hu; rfl
theorem crcN_succ (k x : Nat) : crcN (k + 1) x = crcHalf (crcN k x) := by
 induction k generalizing x with
 | zero => rfl
 | succ k ih => rw [crcN, ih (crcHalf x)]; rfl
theorem wrap_small (n : Int) (h0 : 0 ≤ n) (h1 : n < 2 ^ 62) : IntKind.i64.wrap n = n := by rw [IntKind.wrap_i64]; omega
theorem bits_xor_i64 (a b : Nat) (ha : a < 2 ^ 62) (hb : b < 2 ^ 62) : bits .xor .i64 (a : Int) (b : Int) = ((a ^^^ b : Nat) : Int) := by
 have ha' : a % 2 ^ 64 = a := Nat.mod_eq_of_lt (Nat.lt_of_lt_of_le ha (by decide))
 have hb' : b % 2 ^ 64 = b := Nat.mod_eq_of_lt (Nat.lt_of_lt_of_le hb (by decide))
 simp only [bits, BitVec.ofInt_natCast, BitVec.toNat_xor, BitVec.toNat_ofNat]
 have e : IntKind.i64.bits = 64 := rfl
 rw [e, ha', hb']
 exact wrap_small _ (Int.natCast_nonneg _) (by have := Nat.xor_lt_two_pow ha hb; exact_mod_cast this)
theorem bits_and_i64 (a b : Nat) (ha : a < 2 ^ 62) (hb : b < 2 ^ 62) : bits .and .i64 (a : Int) (b : Int) = ((a &&& b : Nat) : Int) :=
 (bits_nat .i64 62 (by decide) wrap_small a b ha hb).1
theorem bits_xor_u8 (a b : Nat) (ha : a < 256) (hb : b < 256) : bits .xor .u8 (a : Int) (b : Int) = ((a ^^^ b : Nat) : Int) := by
 have ha' : a % 2 ^ 8 = a := Nat.mod_eq_of_lt ha
 have hb' : b % 2 ^ 8 = b := Nat.mod_eq_of_lt hb
 simp only [bits, BitVec.ofInt_natCast, BitVec.toNat_xor, BitVec.toNat_ofNat]
 have e : IntKind.u8.bits = 8 := rfl
 rw [e, ha', hb', IntKind.wrap_u8]
 have := Nat.xor_lt_two_pow (n := 8) ha hb
 omega
theorem and_one (y : Nat) (h : y < 65536) : bits .and .i64 (y : Int) 1 = ((y % 2 : Nat) : Int) := by
 have := bits_and_i64 y 1 (by omega) (by omega)
 rw [Nat.and_one_is_mod] at this; exact this
theorem xor_poly (y : Nat) (h : y < 65536) : bits .xor .i64 (y : Int) 40961 = ((y ^^^ 40961 : Nat) : Int) := bits_xor_i64 y 40961 (by omega) (by omega)
theorem step_i (s b : Nat) (hs : s < 65536) (hb : b < 256) (z : Zc) : PSpec Tryz.prog 148 [.int .i64 s, .int .u8 b] z fun v z' => v = .int .i64 (crcStep s b) ∧ z = z' := by
 have e0 : bits .xor .i64 (s : Int) (b : Int) = ((s ^^^ b : Nat) : Int) := bits_xor_i64 s b (by omega) (by omega)
 have hx := Nat.xor_lt_two_pow (n := 16) (x := s) (y := b) (by omega) (by omega)
 have i1 : inB s 0 65535 = true := inB_iff.mpr (by omega)
 unfold crcStep
 refine eP k148 ?_
 refine gO ?_
 try (refine tT ?_; refine callP (in_s _ _ _ _) rfl rfl ?_; rintro _ _ - ⟨rfl, rfl⟩; simp only [i1]; refine gO ?_); refine gO ?_
 rw [wrap_in (n := (b : Int)) (by omega) (by omega), e0]
 generalize s ^^^ b = x at hx ⊢
 refine loop_upd (ι := Nat) (n := 0) (fun k => k ≤ 8) (fun k => [(0, .c (.v (.int .i64 (crcN k x)))), (10, .c (.v (.int .i64 k)))]) (fun _ => []) (fun _ => z) (fun k => 8 - k) 0 (by omega) (by (simp only [wrI, wrR, anyL, st, List.append_nil, List.nil_append, List.cons_append]); exact rfl) ?_ ?_
 ·exact lE
 ·rintro k hk
  have hy := crcN_lt k (x := x) hx
  have hsu := crcN_succ k x
  generalize hyk : crcN k x = y at hy hsu ⊢
  refine gO ?_
  (with_reducible refine condI.split (fun hg => ?_) (fun hg => ?_) <;> (try simp only [hg]) <;> (try simp only [seval, go_sem]))
  ·refine gO ?_
   have hk8 : k < 8 := by simp at hg; omega
   try (refine ⟨by decide, ?_⟩; refine gO ?_)
   have q1 : (y : Int) / 2 = ((y / 2 : Nat) : Int) := by omega
   have q2 : (y : Int).tdiv 2 = ((y / 2 : Nat) : Int) := by rw [Int.tdiv_eq_ediv_of_nonneg (by omega)]; omega
   have q3 : (y : Int).tmod 2 = ((y % 2 : Nat) : Int) := by rw [Int.tmod_eq_emod_of_nonneg (by omega)]; omega
   have q4 : IntKind.i64.wrap ((y / 2 : Nat) : Int) = ((y / 2 : Nat) : Int) := wrap_in (by omega) (by omega)
   simp only [and_one y hy, q1, q2, q3, q4]
   (with_reducible refine condI.split (fun hg => ?_) (fun hg => ?_) <;> (try simp only [hg]) <;> (try simp only [seval, go_sem]))
   ·refine gO ?_
    try simp only [q2, q4]
    rw [xor_poly _ (by omega)]
    rw [crcHalf, if_pos (by simp at hg; omega)] at hsu
    refine ⟨k + 1, by omega, by omega, ?_⟩
    rw [hsu]
    exact lE
   ·refine gO ?_
    try simp only [q2, q4]
    rw [crcHalf, if_neg (by simp at hg; omega)] at hsu
    refine ⟨k + 1, by omega, by omega, ?_⟩
    simp only [hsu]
    exact lE
  ·refine gO ?_
   (first|refine fN ?_|exact fZ)
   have : k = 8 := by simp at hg; omega
   subst this
   simp [hyk]
theorem step_s (s b : Nat) (hs : s < 65536) (hb : b < 256) (z : Zc) : PSpec Tryz.prog 113 [.int .i64 s, .int .u8 b] z fun v z' => v = .int .i64 (crcStep s b) ∧ z = z' := by
 have e0 : bits .xor .i64 (s : Int) (b : Int) = ((s ^^^ b : Nat) : Int) := bits_xor_i64 s b (by omega) (by omega)
 have hx := Nat.xor_lt_two_pow (n := 16) (x := s) (y := b) (by omega) (by omega)
 have i1 : inB s 0 65535 = true := inB_iff.mpr (by omega)
 unfold crcStep
 refine eP k113 ?_
 refine gO ?_
 try (refine tT ?_; refine callP (in_s _ _ _ _) rfl rfl ?_; rintro _ _ - ⟨rfl, rfl⟩; simp only [i1]; refine gO ?_); refine gO ?_
 rw [wrap_in (n := (b : Int)) (by omega) (by omega), e0]
 generalize s ^^^ b = x at hx ⊢
 refine loop_upd (ι := Nat) (n := 0) (fun k => k ≤ 8) (fun k => [(0, .c (.v (.int .i64 (crcN k x)))), (5, .c (.v (.int .i64 k)))]) (fun _ => []) (fun _ => z) (fun k => 8 - k) 0 (by omega) (by (simp only [wrI, wrR, anyL, st, List.append_nil, List.nil_append, List.cons_append]); exact rfl) ?_ ?_
 ·exact lE
 ·rintro k hk
  have hy := crcN_lt k (x := x) hx
  have hsu := crcN_succ k x
  generalize hyk : crcN k x = y at hy hsu ⊢
  refine gO ?_
  (with_reducible refine condI.split (fun hg => ?_) (fun hg => ?_) <;> (try simp only [hg]) <;> (try simp only [seval, go_sem]))
  ·refine gO ?_
   have hk8 : k < 8 := by simp at hg; omega
   try (refine ⟨by decide, ?_⟩; refine gO ?_)
   have q1 : (y : Int) / 2 = ((y / 2 : Nat) : Int) := by omega
   have q2 : (y : Int).tdiv 2 = ((y / 2 : Nat) : Int) := by rw [Int.tdiv_eq_ediv_of_nonneg (by omega)]; omega
   have q3 : (y : Int).tmod 2 = ((y % 2 : Nat) : Int) := by rw [Int.tmod_eq_emod_of_nonneg (by omega)]; omega
   have q4 : IntKind.i64.wrap ((y / 2 : Nat) : Int) = ((y / 2 : Nat) : Int) := wrap_in (by omega) (by omega)
   simp only [and_one y hy, q1, q2, q3, q4]
   (with_reducible refine condI.split (fun hg => ?_) (fun hg => ?_) <;> (try simp only [hg]) <;> (try simp only [seval, go_sem]))
   ·refine gO ?_
    try simp only [q2, q4]
    rw [xor_poly _ (by omega)]
    rw [crcHalf, if_pos (by simp at hg; omega)] at hsu
    refine ⟨k + 1, by omega, by omega, ?_⟩
    rw [hsu]
    exact lE
   ·refine gO ?_
    try simp only [q2, q4]
    rw [crcHalf, if_neg (by simp at hg; omega)] at hsu
    refine ⟨k + 1, by omega, by omega, ?_⟩
    simp only [hsu]
    exact lE
  ·refine gO ?_
   (first|refine fN ?_|exact fZ)
   have : k = 8 := by simp at hg; omega
   subst this
   simp [hyk]
theorem crcOf_snoc (l : List Int) (x : Int) : crcOf (l ++ [x]) = crcStep (crcOf l) x.toNat := by simp [crcOf, List.foldl_append]
theorem take_snoc {α : Type} {l : List α} {k : Nat} {x : α} (h : l[k]? = some x) : l.take (k + 1) = l.take k ++ [x] := by rw [List.take_add_one, h]; rfl
theorem byte_at {z : Zc} {A : Option Addr} {l : List Int} (hr : RdAt z A 0 (bc l)) {k : Nat} {x : Int} (hx : l[k]? = some x) : RdAt z A (k * 1) [.int .u8 x] := by
 have := hr.cell k (u := .int .u8 x) (by simp [hx])
 simpa using this
theorem byte_is {z : Zc} {A : Option Addr} {l : List Int} (hr : RdAt z A 0 (bc l)) {k : Nat} (hk : k < l.length) : IsAt A := hr.isAt (by simp; omega)
theorem crcOf_i (l : List Int) (v : Value) (z : Zc) (h : By z l v) (hl : l.length ≤ 1000000000) : PSpec Tryz.prog 114 [v] z fun v z' => v = .int .i64 (crcOf l) ∧ z = z' := by
 obtain ⟨A, c, rfl, hc, hB, hr⟩ := h.form
 refine eP k114 ?_
 refine gO ?_
 refine loop_upd (ι := Nat) (n := 0) (fun k => k ≤ l.length) (fun k => [(3, .c (.v (.int .i64 (crcOf (l.take k))))), (8, .c (.v (.int .i64 k)))]) (fun _ => []) (fun _ => z) (fun k => l.length - k) 0 (by omega) (by (simp only [wrI, wrR, anyL, st, List.append_nil, List.nil_append, List.cons_append]); exact rfl) ?_ ?_
 ·exact lE
 ·rintro k hk
  refine gO ?_
  (with_reducible refine condI.split (fun hg => ?_) (fun hg => ?_) <;> (try simp only [hg]) <;> (try simp only [seval, go_sem]))
  ·refine gO ?_
   have hk' : k < l.length := by simp at hg; omega
   obtain ⟨x, hx⟩ : ∃ x, l[k]? = some x := ⟨_, List.getElem?_eq_getElem hk'⟩
   have hbx := hB x (List.mem_of_getElem? hx)
   obtain ⟨xn, rfl⟩ := Int.eq_ofNat_of_zero_le hbx.1
   (refine ⟨⟨by omega, by omega, byte_is hr hk'⟩, ?_⟩; (try simp only [seval, go_sem]))
   (refine ldF.one _ (by first | exact .inl (byte_at hr hx) | exact (byte_at hr hx)) ?_; (try simp only [seval, go_sem]))
   refine gO ?_
   refine tT ?_; refine callP (step_i (crcOf (l.take k)) xn (crcOf_lt (hB.take k)) (by omega) z) rfl rfl ?_; rintro _ _ - ⟨rfl, rfl⟩; refine gO ?_
   have e : crcOf (l.take (k + 1)) = crcStep (crcOf (l.take k)) xn := by rw [take_snoc hx, crcOf_snoc]; simp
   refine ⟨k + 1, by omega, by omega, ?_⟩
   rw [← e]
   exact lE
  ·refine gO ?_
   (first|refine fN ?_|exact fZ)
   have : k = l.length := by simp at hg; omega
   subst this
   simp
theorem crcOf_s (l : List Int) (v : Value) (z : Zc) (h : By z l v) (hl : l.length ≤ 1000000000) : PSpec Tryz.prog 79 [v] z fun v z' => v = .int .i64 (crcOf l) ∧ z = z' := by
 obtain ⟨A, c, rfl, hc, hB, hr⟩ := h.form
 refine eP k79 ?_
 refine gO ?_
 refine loop_upd (ι := Nat) (n := 0) (fun k => k ≤ l.length) (fun k => [(3, .c (.v (.int .i64 (crcOf (l.take k))))), (4, .c (.v (.int .i64 k)))]) (fun _ => []) (fun _ => z) (fun k => l.length - k) 0 (by omega) (by (simp only [wrI, wrR, anyL, st, List.append_nil, List.nil_append, List.cons_append]); exact rfl) ?_ ?_
 ·exact lE
 ·rintro k hk
  refine gO ?_
  (with_reducible refine condI.split (fun hg => ?_) (fun hg => ?_) <;> (try simp only [hg]) <;> (try simp only [seval, go_sem]))
  ·refine gO ?_
   have hk' : k < l.length := by simp at hg; omega
   obtain ⟨x, hx⟩ : ∃ x, l[k]? = some x := ⟨_, List.getElem?_eq_getElem hk'⟩
   have hbx := hB x (List.mem_of_getElem? hx)
   obtain ⟨xn, rfl⟩ := Int.eq_ofNat_of_zero_le hbx.1
   (refine ⟨⟨by omega, by omega, byte_is hr hk'⟩, ?_⟩; (try simp only [seval, go_sem]))
   (refine ldF.one _ (by first | exact .inl (byte_at hr hx) | exact (byte_at hr hx)) ?_; (try simp only [seval, go_sem]))
   refine gO ?_
   refine tT ?_; refine callP (step_s (crcOf (l.take k)) xn (crcOf_lt (hB.take k)) (by omega) z) rfl rfl ?_; rintro _ _ - ⟨rfl, rfl⟩; refine gO ?_
   have e : crcOf (l.take (k + 1)) = crcStep (crcOf (l.take k)) xn := by rw [take_snoc hx, crcOf_snoc]; simp
   refine ⟨k + 1, by omega, by omega, ?_⟩
   rw [← e]
   exact lE
  ·refine gO ?_
   (first|refine fN ?_|exact fZ)
   have : k = l.length := by simp at hg; omega
   subst this
   simp
theorem eq_take {l m : List Int} {k : Nat} {x y : Int} (hx : l[k]? = some x) (hy : m[k]? = some y) (ht : l.take k = m.take k) (h : x = y) : l.take (k + 1) = m.take (k + 1) := by rw [take_snoc hx, take_snoc hy, ht, h]
theorem equalB (l m : List Int) (v u : Value) (z : Zc) (h : By z l v) (h' : By z m u) (hl : l.length ≤ 1000000000) (hm : m.length ≤ 1000000000) : PSpec Tryz.prog 57 [v, u] z fun v z' => v = .bool (decide (l = m)) ∧ z = z' := by
 obtain ⟨A, c, rfl, hc, hB, hr⟩ := h.form
 obtain ⟨A', c', rfl, hc', hB', hr'⟩ := h'.form
 refine eP k57 ?_
 refine gO ?_
 (with_reducible refine condI.split (fun hg => ?_) (fun hg => ?_) <;> (try simp only [hg]) <;> (try simp only [seval, go_sem]))
 ·refine gO ?_
  (first|refine fN ?_|exact fZ)
  have : l ≠ m := by rintro rfl; simp at hg
  simp [this]
 ·have hlen : l.length = m.length := by simp at hg; omega
  refine gO ?_
  refine loop_upd (ι := Nat) (n := 0) (fun k => k ≤ l.length ∧ l.take k = m.take k) (fun k => [(13, .c (.v (.int .i64 k)))]) (fun _ => []) (fun _ => z) (fun k => l.length - k) 0 (by simp) (by (simp only [wrI, wrR, anyL, st, List.append_nil, List.nil_append, List.cons_append]); exact rfl) ?_ ?_
  ·exact lE
  ·rintro k ⟨hk, ht⟩
   refine gO ?_
   (with_reducible refine condI.split (fun hg => ?_) (fun hg => ?_) <;> (try simp only [hg]) <;> (try simp only [seval, go_sem]))
   ·have hk' : k < l.length := by simp at hg; omega
    obtain ⟨x, hx⟩ : ∃ x, l[k]? = some x := ⟨_, List.getElem?_eq_getElem hk'⟩
    obtain ⟨y, hy⟩ : ∃ y, m[k]? = some y := ⟨_, List.getElem?_eq_getElem (by omega)⟩
    refine gO ?_
    (refine ⟨⟨by omega, by omega, byte_is hr hk'⟩, ?_⟩; (try simp only [seval, go_sem]))
    (refine ldF.one _ (by first | exact .inl (byte_at hr hx) | exact (byte_at hr hx)) ?_; (try simp only [seval, go_sem]))
    (refine ⟨⟨by omega, by omega, byte_is hr' (show k < m.length by omega)⟩, ?_⟩; (try simp only [seval, go_sem]))
    (refine ldF.one _ (by first | exact .inl (byte_at hr' hy) | exact (byte_at hr' hy)) ?_; (try simp only [seval, go_sem]))
    refine gO ?_
    (with_reducible refine condI.split (fun hg => ?_) (fun hg => ?_) <;> (try simp only [hg]) <;> (try simp only [seval, go_sem]))
    ·refine gO ?_
     (first|refine fN ?_|exact fZ)
     have : l ≠ m := by rintro rfl; rw [hx] at hy; injection hy with hy; subst hy; simp at *
     simp [this]
    ·refine gO ?_
     refine ⟨k + 1, ⟨by omega, eq_take hx hy ht (by simpa using hg)⟩, by omega, ?_⟩
     exact lE
   ·refine gO ?_
    (first|refine fN ?_|exact fZ)
    have : k = l.length := by simp at hg; omega
    subst this
    rw [List.take_length, hlen, List.take_length] at ht
    simp [ht]
theorem crcPut_bc (l : List Int) (n : Nat) (h : crcOf l = n) (hn : n < 65536) : bc (crcPut l) = bc l ++ [.int .u8 ((n % 256 : Nat) : Int), .int .u8 ((n / 256 : Nat) : Int)] := by subst h; simp [crcPut, bc]
theorem crcPut_bi (l : List Int) (h : crcOf l < 65536) : bc l ++ [Value.int .u8 (IntKind.u8.wrap (crcOf l : Int)), Value.int .u8 (IntKind.u8.wrap ((crcOf l : Int) / 256))] = bc (crcPut l) := by
 rw [crcPut_bc l _ rfl h, IntKind.wrap_u8, IntKind.wrap_u8]
 congr 3
 congr 2; omega
theorem crcPut_bs (l : List Int) (h : crcOf l < 65536) : bc l ++ [Value.int .u8 (IntKind.u8.wrap ((crcOf l : Int).tmod 256)), Value.int .u8 (IntKind.u8.wrap (IntKind.i64.wrap ((crcOf l : Int).tdiv 256)))] = bc (crcPut l) := by
 rw [crcPut_bc l _ rfl h, Int.tmod_eq_emod_of_nonneg (by omega), Int.tdiv_eq_ediv_of_nonneg (by omega), wrap_in (by omega) (by omega), IntKind.wrap_u8, IntKind.wrap_u8]
 congr 3
 ·congr 1; omega
 ·congr 2; omega
theorem crcPut_i (l : List Int) (v : Value) (z : Zc) (h : By z l v) (hl : l.length ≤ 100000000) : PSpec Tryz.prog 80 [v] z fun v z' => By z' (crcPut l) v := by
 obtain ⟨A, c, rfl, hc, hB, hr⟩ := h.form
 have hlt := crcOf_lt hB
 refine eP k80 ?_
 refine gO ?_
 refine tT ?_; refine callP (crcOf_i l _ z h (by omega)) rfl rfl ?_; rintro _ _ - ⟨rfl, rfl⟩; refine gO ?_
 refine tT ?_; refine callP (cloneBy l _ z h (by omega)) rfl rfl ?_; rintro v z1 hz1 ⟨A1, rfl, _, hr1⟩; refine gO ?_
 refine aT ?_; (refine appM_fullN 99 atyB rfl rfl hr1 (by first | omega | (simp <;> omega)) rfl rfl rfl rfl (by simp [Value.oneCell']) (by omega) (fun A2 c2 z2 hz2 hc2 hr2 => ?_)); dsimp only at hz2; refine gO ?_
 rw [crcPut_bi l hlt] at hr2
 have h2 : By z2 (crcPut l) (.slice A2 (l.length + 2) c2) := by rw [← crcPut_length]; exact By.mk (by rw [crcPut_length]; exact hc2) hB.crcPut hr2
 refine tT ?_; refine callP (cloneBy (crcPut l) _ z2 h2 (by rw [crcPut_length]; omega)) rfl rfl ?_; rintro v z3 hz3 ⟨A3, rfl, _, hr3⟩; refine gO ?_
 (first|refine fN ?_|exact fZ)
 exact By.mk (Nat.le_refl _) hB.crcPut hr3
theorem crcPut_s (l : List Int) (v : Value) (z : Zc) (h : By z l v) (hl : l.length ≤ 100000000) : PSpec Tryz.prog 54 [v] z fun v z' => By z' (crcPut l) v := by
 obtain ⟨A, c, rfl, hc, hB, hr⟩ := h.form
 have hlt := crcOf_lt hB
 refine eP k54 ?_
 refine gO ?_
 refine tT ?_; refine callP (crcOf_s l _ z h (by omega)) rfl rfl ?_; rintro _ _ - ⟨rfl, rfl⟩; refine gO ?_
 (refine appT.toRow 90 0 (m := 0) (sz := 1) rfl rfl rfl (by omega) (fun b => ?_)); simp only [seval, go_sem, rowSt, subV, subC, subE, subL]
 refine aT ?_; (refine appM_row 90 atyB rfl rfl rfl rfl hr (by first | omega | simp) (by simp [Value.oneCell']) (by omega) (fun v1 => ?_)); refine gO ?_
 refine aT ?_; (refine appM_new 90 atyB rfl rfl rfl rfl rfl rfl rfl (by simp [Value.oneCell']) (by omega) (fun v2 => ?_)); refine gO ?_
 (refine FinV.frzR 90 rfl (fun A2 c2 z2 hv2 hc2 hz2 hr2 => ?_)); dsimp only at hz2; (try subst hv2); simp only [seval, go_sem]
 rw [crcPut_bs l hlt] at hr2
 (first|refine fN ?_|exact fZ)
 rw [← crcPut_length]
 exact By.mk (by rw [crcPut_length]; exact hc2) hB.crcPut hr2
theorem crcCut_short {l : List Int} (h : l.length < 2) : crcCut l = none := by unfold crcCut; rw [if_neg (by omega)]
theorem crcCut_no {l : List Int} (h : crcPut (l.take (l.length - 2)) ≠ l) : crcCut l = none := by unfold crcCut; rw [if_neg (fun k => h k.2)]
theorem crcCut_yes {l : List Int} (h2 : 2 ≤ l.length) (h : crcPut (l.take (l.length - 2)) = l) : crcCut l = some (l.take (l.length - 2)) := by unfold crcCut; rw [if_pos ⟨h2, h⟩]
theorem crcCut_i (l : List Int) (v : Value) (z : Zc) (h : By z l v) (hl : l.length ≤ 100000000) : PSpec Tryz.prog 55 [v] z fun v z' => match crcCut l with
  | some b => ∃ u, v = .tuple #[u, .bool true] ∧ By z' b u
  | none => v = .tuple #[.slice none 0 0, .bool false] := by
 obtain ⟨A, c, rfl, hc, hB, hr⟩ := h.form
 refine eP k55 ?_
 refine gO ?_
 (with_reducible refine guardR.split (fun hg => ?_) (fun hg => ?_) <;> (try simp only [hg]) <;> simp only [seval, go_sem])
 ·refine gO ?_
  (first|refine fN ?_|exact fZ)
  rw [crcCut_short (by rw [decide_eq_true_eq, wrap_in (by omega) (by omega)] at hg; omega)]
  trivial
 ·have h2 : 2 ≤ l.length := by rw [decide_eq_false_iff_not, wrap_in (by omega) (by omega)] at hg; omega
  have w1 : IntKind.i64.wrap ((l.length : Int) - 2) = ((l.length - 2 : Nat) : Int) := by rw [wrap_in (by omega) (by omega)]; omega
  simp only [w1]
  have ht : By z (l.take (l.length - 2)) (.slice A (l.length - 2) c) := h.take (by omega) (by omega)
  simp only [seval, go_sem]
  refine ⟨by omega, ?_⟩; refine gO ?_
  refine tT ?_; refine callP (crcPut_i _ _ z ht (by rw [List.length_take]; omega)) rfl rfl ?_; rintro v z1 hz1 hv; refine gO ?_
  obtain ⟨A1, c1, rfl, hc1, _⟩ := hv.form
  refine tT ?_; refine callP (equalB _ _ _ _ z1 hv (h.mono hz1) (by rw [crcPut_length, List.length_take]; omega) (by omega)) rfl rfl ?_; rintro _ _ - ⟨rfl, rfl⟩; refine gO ?_
  (with_reducible refine condI.split (fun hg => ?_) (fun hg => ?_) <;> (try simp only [hg]) <;> (try simp only [seval, go_sem]))
  ·(first|refine fN ?_|exact fZ)
   simp at hg
   rw [crcCut_no hg]
   trivial
  ·refine gO ?_
   refine ⟨by omega, ?_⟩; refine gO ?_
   refine tT ?_; refine callP (cloneBy _ _ z1 (ht.mono hz1) (by rw [List.length_take]; omega)) rfl rfl ?_; rintro v z2 hz2 ⟨A2, rfl, hB2, hr2⟩; refine gO ?_
   (first|refine fN ?_|exact fZ)
   simp at hg
   rw [crcCut_yes h2 hg]
   exact ⟨_, rfl, By.mk (Nat.le_refl _) hB2 hr2⟩
theorem crcCut_sum {l : List Int} (h2 : 2 ≤ l.length) (hB : Bys l) {x y : Int} (hx : l[l.length - 2]? = some x) (hy : l[l.length - 2 + 1]? = some y) : (crcOf (l.take (l.length - 2)) : Int) = x + y * 256 ↔ crcPut (l.take (l.length - 2)) = l := by
 have hs : l = l.take (l.length - 2) ++ [x, y] := by
  have h1 : l.drop (l.length - 2) = [x, y] := by
   apply List.ext_getElem?
   intro i
   rw [List.getElem?_drop]
   match i with
   | 0 => simpa using hx
   | 1 => simpa using hy
   | i + 2 => rw [List.getElem?_eq_none (by omega)]; simp
  rw [← h1, List.take_append_drop]
 have hbx := hB x (List.mem_of_getElem? hx)
 have hby := hB y (List.mem_of_getElem? hy)
 have hlt := crcOf_lt (hB.take (l.length - 2))
 constructor
 ·intro e
  conv => rhs; rw [hs]
  unfold crcPut
  congr 1
  simp only [List.cons.injEq, and_true]
  omega
 ·intro e
  rw [hs] at e
  unfold crcPut at e
  simp only [List.length_append, List.length_cons, List.length_nil, List.length_take] at e
  have e' : crcOf (l.take (l.length - 2)) = crcOf (l.take (l.length - 2)) := rfl
  have hm : min (l.length - 2) l.length + (0 + 1 + 1) - 2 = l.length - 2 := by omega
  rw [hm, List.take_append_of_le_length (by rw [List.length_take]; omega), List.take_take, Nat.min_self] at e
  have := List.append_cancel_left e
  simp only [List.cons.injEq, and_true] at this
  omega
theorem crcCut_s (l : List Int) (v : Value) (z : Zc) (h : By z l v) (hl : l.length ≤ 100000000) : PSpec Tryz.prog 53 [v] z fun v z' => ∃ u, match crcCut l with
  | some b => v = .tuple #[u, .bool true] ∧ By z' b u
  | none => v = .tuple #[u, .bool false] ∧ By z' [] u := by
 obtain ⟨A, c, rfl, hc, hB, hr⟩ := h.form
 refine eP k53 ?_
 refine gO ?_
 (with_reducible refine guardR.split (fun hg => ?_) (fun hg => ?_) <;> (try simp only [hg]) <;> simp only [seval, go_sem])
 ·refine gO ?_
  refine FinV.frz 0 rfl rfl (fun b z1 hz1 hr1 => ?_)
  simp only [seval, go_sem, Go.Proofs.YtllafcmkppmdgaaGreat.frz, subV, subC, subE, subL]
  (first|refine fN ?_|exact fZ)
  rw [crcCut_short (by rw [decide_eq_true_eq, wrap_in (by omega) (by omega)] at hg; omega)]
  exact ⟨_, rfl, Sl.nil _ _ _⟩
 ·have h2 : 2 ≤ l.length := by rw [decide_eq_false_iff_not, wrap_in (by omega) (by omega)] at hg; omega
  have w1 : IntKind.i64.wrap ((l.length : Int) - 2) = ((l.length - 2 : Nat) : Int) := by rw [wrap_in (by omega) (by omega)]; omega
  have w2 : IntKind.i64.wrap (((l.length - 2 : Nat) : Int) + 1) = ((l.length - 2 + 1 : Nat) : Int) := by rw [wrap_in (by omega) (by omega)]; omega
  have ht : By z (l.take (l.length - 2)) (.slice A (l.length - 2) c) := h.take (by omega) (by omega)
  obtain ⟨x, hx⟩ : ∃ x, l[l.length - 2]? = some x := ⟨_, List.getElem?_eq_getElem (by omega)⟩
  obtain ⟨y, hy⟩ : ∃ y, l[l.length - 2 + 1]? = some y := ⟨_, List.getElem?_eq_getElem (by omega)⟩
  have hbx := hB x (List.mem_of_getElem? hx)
  have hby := hB y (List.mem_of_getElem? hy)
  have hsum := crcCut_sum h2 hB hx hy
  have w3 : IntKind.i64.wrap x = x := wrap_in (by omega) (by omega)
  have w4 : IntKind.i64.wrap y = y := wrap_in (by omega) (by omega)
  have w5 : IntKind.i64.wrap (y * 256) = y * 256 := wrap_in (by omega) (by omega)
  have w6 : IntKind.i64.wrap (x + y * 256) = x + y * 256 := wrap_in (by omega) (by omega)
  simp only [w1]
  simp only [seval, go_sem]
  refine ⟨by omega, ?_⟩; refine gO ?_
  (refine ⟨⟨by omega, by omega, byte_is hr (show l.length - 2 < l.length by omega)⟩, ?_⟩; (try simp only [seval, go_sem]))
  (refine ldF.one _ (by first | exact .inl (byte_at hr hx) | exact (byte_at hr hx)) ?_; (try simp only [seval, go_sem]))
  simp only [w2, w3]
  simp only [seval, go_sem]
  (refine ⟨⟨by omega, by omega, byte_is hr (show l.length - 2 + 1 < l.length by omega)⟩, ?_⟩; (try simp only [seval, go_sem]))
  (refine ldF.one _ (by first | exact .inl (byte_at hr hy) | exact (byte_at hr hy)) ?_; (try simp only [seval, go_sem]))
  simp only [w4, w5, w6]
  refine tT ?_; refine callP (crcOf_s _ _ z ht (by rw [List.length_take]; omega)) rfl rfl ?_; rintro _ _ - ⟨rfl, rfl⟩; refine gO ?_
  (with_reducible refine condI.split (fun hg => ?_) (fun hg => ?_) <;> (try simp only [hg]) <;> (try simp only [seval, go_sem]))
  ·refine gO ?_
   refine FinV.frz 0 rfl rfl (fun b z1 hz1 hr1 => ?_)
   simp only [seval, go_sem, Go.Proofs.YtllafcmkppmdgaaGreat.frz, subV, subC, subE, subL]
   (first|refine fN ?_|exact fZ)
   rw [crcCut_no (fun e => by rw [← hsum] at e; simp [e] at hg)]
   exact ⟨_, rfl, Sl.nil _ _ _⟩
  ·refine gO ?_
   refine ⟨by omega, ?_⟩; refine gO ?_
   have hr1 : RdAt z A 0 (bc (l.take (l.length - 2))) := by rw [show bc (l.take (l.length - 2)) = (bc l).take (l.length - 2) by simp [bc, List.map_take]]; exact hr.take _
   refine aT ?_; (refine appM_empty 99 atyB rfl (by first | exact .inl ⟨_, rfl⟩ | exact .inr ⟨_, _, rfl⟩) rfl hr1 (by first | omega | (simp <;> omega)) (bc_one _) (by omega) (fun A2 c2 z2 hz2 hc2 hr2 => ?_)); dsimp only at hz2; refine gO ?_
   (first|refine fN ?_|exact fZ)
   simp at hg
   rw [crcCut_yes h2 (hsum.1 hg)]
   refine ⟨_, rfl, ?_⟩
   have := By.mk (l := l.take (l.length - 2)) (c := c2) (by simp; omega) (hB.take _) hr2
   rwa [List.length_take, Nat.min_eq_left (by omega)] at this
theorem same_i (f g : Frm) (v u : Value) (z : Zc) (h : By z f.data v) (h' : By z g.data u) (hl : f.data.length ≤ 100000000) (hm : g.data.length ≤ 100000000) : PSpec Tryz.prog 116 [vFrm f v, vFrm g u] z fun v z' => v = .bool (decide (f = g)) ∧ z = z' := by
 obtain ⟨A, c, rfl, hc, hB, hr⟩ := h.form
 obtain ⟨A', c', rfl, hc', hB', hr'⟩ := h'.form
 refine eP k116 ?_
 (try simp only [seval, go_sem]); repeat' (first | (with_reducible refine vsI.id ?_; (try simp only [seval, go_sem])) | (with_reducible refine vcI_cond ?_; (try simp only [seval, go_sem])) | (with_reducible refine guardR.split (fun hg => ?_) (fun hg => ?_) <;> (try simp only [hg]) <;> simp only [seval, go_sem]) | (with_reducible refine condI.split (fun hg => ?_) (fun hg => ?_) <;> (try simp only [hg]) <;> (try simp only [seval, go_sem])) | (with_reducible refine callM.toT ?_) | (refine callP (equalB _ _ _ _ z h h' (by omega) (by omega)) rfl rfl ?_; rintro _ _ - ⟨rfl, rfl⟩; (try simp only [seval, go_sem])))
 all_goals ((first|refine fN ?_|exact fZ); obtain ⟨f1, f2, f3, f4, f5, f6, f7, f8, f9⟩ := f; obtain ⟨g1, g2, g3, g4, g5, g6, g7, g8, g9⟩ := g; simp_all)
theorem frmOk_k (f : Frm) : (f.kind = 1 → frmOk f = (isNum f.seq && isNum f.ack && pieceOk f.seg f.len f.data.length && decide (⟨f.kind, f.seq, f.ack, false, f.fin, 0, f.seg, f.len, f.data⟩ = f))) ∧
  (f.kind = 2 → frmOk f = (isNum f.ack && !(f.poll && f.fin) && inB f.say 0 2 && decide (⟨f.kind, 0, f.ack, f.poll, f.fin, f.say, 0, 0, []⟩ = f))) ∧
  (f.kind = 3 → frmOk f = (pieceOk f.seg f.len f.data.length && decide (⟨f.kind, 0, 0, false, false, 0, f.seg, f.len, f.data⟩ = f))) ∧
  (f.kind = 4 → frmOk f = (inB f.len 1 255 && decide (⟨f.kind, 0, 0, false, false, 0, 0, f.len, []⟩ = f))) ∧ (f.kind ≠ 1 → f.kind ≠ 2 → f.kind ≠ 3 → f.kind ≠ 4 → frmOk f = false) := by
 obtain ⟨kind, seq, ack, poll, fin, say, seg, len, data⟩ := f
 refine ⟨fun h => ?_, fun h => ?_, fun h => ?_, fun h => ?_, fun h1 h2 h3 h4 => ?_⟩
 all_goals (unfold frmOk; simp only at *)
 ·subst h; rw [Bool.eq_iff_iff]; simp [@eq_comm Int 0]
  try (constructor <;> intro h <;> simp_all)
 ·subst h; rw [Bool.eq_iff_iff]; simp [@eq_comm Int 0]
  try (constructor <;> intro h <;> simp_all)
 ·subst h; rw [Bool.eq_iff_iff]; simp [@eq_comm Int 0]
  try (constructor <;> intro h <;> simp_all)
 ·subst h; rw [Bool.eq_iff_iff]; simp [@eq_comm Int 0]
  try (constructor <;> intro h <;> simp_all)
 ·simp [*]
theorem frmOk_i (f : Frm) (v : Value) (z : Zc) (h : By z f.data v) (hl : f.data.length ≤ 100000000) : PSpec Tryz.prog 83 [vFrm f v] z fun v z' => v = .bool (frmOk f) ∧ z = z' := by
 obtain ⟨A, c, rfl, hc, hB, hr⟩ := h.form
 have h0 : By z [] (.slice none 0 0) := Sl.nil z none 0
 by_cases hk : f.kind = 2
 ·obtain ⟨kind, seq, ack, poll, fin, say, seg, len, data⟩ := f
  dsimp only at *
  subst hk
  have k2 := (frmOk_k ⟨2, seq, ack, poll, fin, say, seg, len, data⟩).2.1 rfl
  rw [k2]
  clear k2
  dsimp only
  cases poll <;> cases fin
  ·refine eP k83 ?_
   (try simp only [seval, go_sem]); repeat' (first | (with_reducible refine vsI.id ?_; (try simp only [seval, go_sem])) | (with_reducible refine vcI_cond ?_; (try simp only [seval, go_sem])) | (with_reducible refine guardR.split (fun hg => ?_) (fun hg => ?_) <;> (try simp only [hg]) <;> simp only [seval, go_sem]) | (with_reducible refine condI.split (fun hg => ?_) (fun hg => ?_) <;> (try simp only [hg]) <;> (try simp only [seval, go_sem])) | (with_reducible refine callM.toT ?_) | (refine callP (isnum _ _) rfl rfl ?_; rintro _ _ - ⟨rfl, rfl⟩; (try simp only [seval, go_sem])) | (refine callP (in_i _ _ _ _) rfl rfl ?_; rintro _ _ - ⟨rfl, rfl⟩; (try simp only [seval, go_sem])) | (refine callP (same_i ⟨2, 0, ack, false, false, say, 0, 0, []⟩ ⟨2, seq, ack, false, false, say, seg, len, data⟩ _ _ z h0 h (by simp) hl) rfl rfl ?_; rintro _ _ - ⟨rfl, rfl⟩; (try simp only [seval, go_sem])))
   all_goals (first|refine fN ?_|exact fZ)
   all_goals simp [*]
  ·refine eP k83 ?_
   (try simp only [seval, go_sem]); repeat' (first | (with_reducible refine vsI.id ?_; (try simp only [seval, go_sem])) | (with_reducible refine vcI_cond ?_; (try simp only [seval, go_sem])) | (with_reducible refine guardR.split (fun hg => ?_) (fun hg => ?_) <;> (try simp only [hg]) <;> simp only [seval, go_sem]) | (with_reducible refine condI.split (fun hg => ?_) (fun hg => ?_) <;> (try simp only [hg]) <;> (try simp only [seval, go_sem])) | (with_reducible refine callM.toT ?_) | (refine callP (isnum _ _) rfl rfl ?_; rintro _ _ - ⟨rfl, rfl⟩; (try simp only [seval, go_sem])) | (refine callP (in_i _ _ _ _) rfl rfl ?_; rintro _ _ - ⟨rfl, rfl⟩; (try simp only [seval, go_sem])) | (refine callP (same_i ⟨2, 0, ack, false, true, say, 0, 0, []⟩ ⟨2, seq, ack, false, true, say, seg, len, data⟩ _ _ z h0 h (by simp) hl) rfl rfl ?_; rintro _ _ - ⟨rfl, rfl⟩; (try simp only [seval, go_sem])))
   all_goals (first|refine fN ?_|exact fZ)
   all_goals simp [*]
  ·refine eP k83 ?_
   (try simp only [seval, go_sem]); repeat' (first | (with_reducible refine vsI.id ?_; (try simp only [seval, go_sem])) | (with_reducible refine vcI_cond ?_; (try simp only [seval, go_sem])) | (with_reducible refine guardR.split (fun hg => ?_) (fun hg => ?_) <;> (try simp only [hg]) <;> simp only [seval, go_sem]) | (with_reducible refine condI.split (fun hg => ?_) (fun hg => ?_) <;> (try simp only [hg]) <;> (try simp only [seval, go_sem])) | (with_reducible refine callM.toT ?_) | (refine callP (isnum _ _) rfl rfl ?_; rintro _ _ - ⟨rfl, rfl⟩; (try simp only [seval, go_sem])) | (refine callP (in_i _ _ _ _) rfl rfl ?_; rintro _ _ - ⟨rfl, rfl⟩; (try simp only [seval, go_sem])) | (refine callP (same_i ⟨2, 0, ack, true, false, say, 0, 0, []⟩ ⟨2, seq, ack, true, false, say, seg, len, data⟩ _ _ z h0 h (by simp) hl) rfl rfl ?_; rintro _ _ - ⟨rfl, rfl⟩; (try simp only [seval, go_sem])))
   all_goals (first|refine fN ?_|exact fZ)
   all_goals simp [*]
  ·refine eP k83 ?_
   (try simp only [seval, go_sem]); repeat' (first | (with_reducible refine vsI.id ?_; (try simp only [seval, go_sem])) | (with_reducible refine vcI_cond ?_; (try simp only [seval, go_sem])) | (with_reducible refine guardR.split (fun hg => ?_) (fun hg => ?_) <;> (try simp only [hg]) <;> simp only [seval, go_sem]) | (with_reducible refine condI.split (fun hg => ?_) (fun hg => ?_) <;> (try simp only [hg]) <;> (try simp only [seval, go_sem])) | (with_reducible refine callM.toT ?_) | (refine callP (isnum _ _) rfl rfl ?_; rintro _ _ - ⟨rfl, rfl⟩; (try simp only [seval, go_sem])) | (refine callP (in_i _ _ _ _) rfl rfl ?_; rintro _ _ - ⟨rfl, rfl⟩; (try simp only [seval, go_sem])) | (refine callP (same_i ⟨2, 0, ack, true, true, say, 0, 0, []⟩ ⟨2, seq, ack, true, true, say, seg, len, data⟩ _ _ z h0 h (by simp) hl) rfl rfl ?_; rintro _ _ - ⟨rfl, rfl⟩; (try simp only [seval, go_sem])))
   all_goals (first|refine fN ?_|exact fZ)
   all_goals simp [*]
 ·refine eP k83 ?_
  (try simp only [seval, go_sem]); repeat' (first | (with_reducible refine vsI.id ?_; (try simp only [seval, go_sem])) | (with_reducible refine vcI_cond ?_; (try simp only [seval, go_sem])) | (with_reducible refine guardR.split (fun hg => ?_) (fun hg => ?_) <;> (try simp only [hg]) <;> simp only [seval, go_sem]) | (with_reducible refine condI.split (fun hg => ?_) (fun hg => ?_) <;> (try simp only [hg]) <;> (try simp only [seval, go_sem])) | (with_reducible refine callM.toT ?_) | (refine callP (isnum _ _) rfl rfl ?_; rintro _ _ - ⟨rfl, rfl⟩; (try simp only [seval, go_sem])) | (refine callP (pieceok_i _ _ _ _ _ _ (by omega)) rfl rfl ?_; rintro _ _ - ⟨rfl, rfl⟩; (try simp only [seval, go_sem])) | (refine callP (in_i _ _ _ _) rfl rfl ?_; rintro _ _ - ⟨rfl, rfl⟩; (try simp only [seval, go_sem])) | (refine callP (same_i ⟨f.kind, f.seq, f.ack, false, f.fin, 0, f.seg, f.len, f.data⟩ f _ _ z h h hl hl) rfl rfl ?_; rintro _ _ - ⟨rfl, rfl⟩; (try simp only [seval, go_sem])) | (refine callP (same_i ⟨f.kind, 0, 0, false, false, 0, f.seg, f.len, f.data⟩ f _ _ z h h hl hl) rfl rfl ?_; rintro _ _ - ⟨rfl, rfl⟩; (try simp only [seval, go_sem])) | (refine callP (same_i ⟨f.kind, 0, 0, false, false, 0, 0, f.len, []⟩ f _ _ z h0 h (by simp) hl) rfl rfl ?_; rintro _ _ - ⟨rfl, rfl⟩; (try simp only [seval, go_sem])))
  all_goals (try (exfalso; simp_all; done))
  all_goals (first|refine fN ?_|exact fZ)
  all_goals (obtain ⟨k1, k2, k3, k4, k5⟩ := frmOk_k f)
  all_goals (simp only [beq_iff_eq, beq_eq_false_iff_ne, ne_eq, and_true, Bool.not_eq_true', Bool.not_eq_false'] at *)
  all_goals (first | rw [k1 (by assumption)] | rw [k3 (by assumption)] | rw [k4 (by assumption)] | rw [k5 (by assumption) (by assumption) (by assumption) (by assumption)])
  all_goals (clear k1 k2 k3 k4 k5; simp [*])
theorem frmOk_s (f : Frm) (v : Value) (z : Zc) (h : By z f.data v) (hl : f.data.length ≤ 100000000) : PSpec Tryz.prog 59 [vFrm f v] z fun v z' => v = .bool (frmOk f) ∧ z = z' := by
 obtain ⟨A, c, rfl, hc, hB, hr⟩ := h.form
 refine eP k59 ?_
 (try simp only [seval, go_sem]); repeat' (first | (with_reducible refine vsI.id ?_; (try simp only [seval, go_sem])) | (with_reducible refine vcI_cond ?_; (try simp only [seval, go_sem])) | (with_reducible refine guardR.split (fun hg => ?_) (fun hg => ?_) <;> (try simp only [hg]) <;> simp only [seval, go_sem]) | (with_reducible refine condI.split (fun hg => ?_) (fun hg => ?_) <;> (try simp only [hg]) <;> (try simp only [seval, go_sem])) | (with_reducible refine callM.toT ?_) | (refine callP (in_s _ _ _ _) rfl rfl ?_; rintro _ _ - ⟨rfl, rfl⟩; (try simp only [seval, go_sem])) | (refine callP (l2seg_s f _ _ _ (by omega)) rfl rfl ?_; rintro _ _ - ⟨rfl, rfl⟩; (try simp only [seval, go_sem])))
 all_goals (try ((first|refine fN ?_|exact fZ); simp_all [frmOk, isNum]; done))
 all_goals ((first|refine fN ?_|exact fZ); simp_all [frmOk, isNum]; rw [Bool.eq_iff_iff]; simp)
theorem head_bc {f : Frm} (h : frmOk f = true) : [Value.int .u8 (IntKind.u8.wrap f.kind), .int .u8 (IntKind.u8.wrap (IntKind.i64.wrap (IntKind.i64.wrap (f.seq * 16) + f.ack))),
  .int .u8 (IntKind.u8.wrap (IntKind.i64.wrap (IntKind.i64.wrap (IntKind.i64.wrap (bit f.poll + IntKind.i64.wrap (2 * bit f.fin)) + IntKind.i64.wrap (4 * f.say)) + IntKind.i64.wrap (16 * f.seg)))),
  .int .u8 (IntKind.u8.wrap f.len), .int .u8 (IntKind.u8.wrap (f.data.length : Int))] = bc (frmHead f) := by
 have hb := frmOk_bound h
 have h1 := bit_01 f.poll
 have h2 := bit_01 f.fin
 simp only [frmHead, bc, List.map_cons, List.map_nil]
 simp only [List.cons.injEq, Value.int.injEq, true_and, and_true, IntKind.wrap_u8, IntKind.wrap_i64]
 omega
theorem head_by {f : Frm} {z : Zc} {A : Option Addr} {c n : Nat} (h : frmOk f = true) (hB : Bys f.data) (hc : 5 + f.data.length ≤ c) {cs : List Value} (hcs : cs = bc (frmHead f)) (hr : RdAt z A 0 (cs ++ bc f.data)) (hn : n = 5 + f.data.length) : By z (frmHead f ++ f.data) (.slice A n c) := by
 subst hcs
 have : n = (frmHead f ++ f.data).length := by rw [hn, List.length_append]; rfl
 rw [this]
 exact By.mk (by rw [← this, hn]; exact hc) ((frmHead_bys h).append hB) (by simpa [bc] using hr)
theorem frmBytes_i (f : Frm) (v : Value) (z : Zc) (h : By z f.data v) (hl : f.data.length ≤ 100000) : PSpec Tryz.prog 58 [vFrm f v] z fun v z' => By z' (frmBytes f) v := by
 obtain ⟨A, c, rfl, hc, hB, hr⟩ := h.form
 refine eP k58 ?_
 refine gO ?_
 refine tT ?_; refine callP (frmOk_i f _ z h (by omega)) rfl rfl ?_; rintro _ _ - ⟨rfl, rfl⟩; refine gO ?_
 (with_reducible refine condI.split (fun hg => ?_) (fun hg => ?_) <;> (try simp only [hg]) <;> (try simp only [seval, go_sem]))
 ·simp at hg
  refine gO ?_
  try ((refine FinV.frz 1 rfl rfl (fun b z1 hz1 hr1 => ?_)); dsimp only at hz1; simp only [seval, go_sem, Go.Proofs.YtllafcmkppmdgaaGreat.frz, subV, subC, subE, subL])
  (first|refine fN ?_|exact fZ)
  simp only [frmBytes, hg]
  exact Sl.nil _ _ _
 ·simp at hg
  refine gO ?_
  refine tT ?_; refine callP (truth_i _ _) rfl rfl ?_; rintro _ _ - ⟨rfl, rfl⟩; refine gO ?_
  refine tT ?_; refine callP (truth_i _ _) rfl rfl ?_; rintro _ _ - ⟨rfl, rfl⟩; refine gO ?_
  (refine appT.toRow 90 1 (m := 5) (sz := 1) rfl rfl rfl (by omega) (fun b => ?_)); simp only [seval, go_sem, rowSt, subV, subC, subE, subL]
  refine aT ?_; (refine appM_row 90 atyB rfl rfl rfl rfl hr (by first | omega | simp) (bc_one _) (by omega) (fun v1 => ?_)); refine gO ?_
  (first | refine callT.frzR 90 rfl (fun A2 c2 z2 hv2 hc2 hz2 hr2 => ?_) | refine callM.frzR 90 rfl (fun A2 c2 z2 hv2 hc2 hz2 hr2 => ?_)); dsimp only at hz2; subst hv2; simp only [seval, go_sem]
  have h2 : By z2 (frmHead f ++ f.data) (.slice A2 (5 + f.data.length) c2) := head_by hg hB hc2 (head_bc hg) hr2 rfl
  refine tT ?_; refine callP (crcPut_i _ _ z2 h2 (by simp [frmHead]; omega)) rfl rfl ?_; rintro v z3 hz3 hv; refine gO ?_
  obtain ⟨A3, c3, rfl, hc3, _⟩ := hv.form
  (first|refine fN ?_|exact fZ)
  rw [frmBytes_ok hg]
  exact hv
theorem frmBytes_s (f : Frm) (v : Value) (z : Zc) (h : By z f.data v) (hl : f.data.length ≤ 100000) : PSpec Tryz.prog 50 [vFrm f v] z fun v z' => By z' (frmBytes f) v := by
 obtain ⟨A, c, rfl, hc, hB, hr⟩ := h.form
 refine eP k50 ?_
 refine gO ?_
 refine tT ?_; refine callP (frmOk_s f _ z h (by omega)) rfl rfl ?_; rintro _ _ - ⟨rfl, rfl⟩; refine gO ?_
 (with_reducible refine condI.split (fun hg => ?_) (fun hg => ?_) <;> (try simp only [hg]) <;> (try simp only [seval, go_sem]))
 ·simp at hg
  refine gO ?_
  try ((refine FinV.frz 1 rfl rfl (fun b z1 hz1 hr1 => ?_)); dsimp only at hz1; simp only [seval, go_sem, Go.Proofs.YtllafcmkppmdgaaGreat.frz, subV, subC, subE, subL])
  (first|refine fN ?_|exact fZ)
  simp only [frmBytes, hg]
  exact Sl.nil _ _ _
 ·simp at hg
  refine gO ?_
  refine tT ?_; refine callP (bit_s _ _) rfl rfl ?_; rintro _ _ - ⟨rfl, rfl⟩; refine gO ?_
  refine tT ?_; refine callP (bit_s _ _) rfl rfl ?_; rintro _ _ - ⟨rfl, rfl⟩; refine gO ?_
  (refine appT.toRow 90 1 (m := 5) (sz := 1) rfl rfl rfl (by omega) (fun b => ?_)); simp only [seval, go_sem, rowSt, subV, subC, subE, subL]
  refine aT ?_; (refine appM_row 90 atyB rfl rfl rfl rfl hr (by first | omega | simp) (bc_one _) (by omega) (fun v1 => ?_)); refine gO ?_
  (first | refine callT.frzR 90 rfl (fun A2 c2 z2 hv2 hc2 hz2 hr2 => ?_) | refine callM.frzR 90 rfl (fun A2 c2 z2 hv2 hc2 hz2 hr2 => ?_)); dsimp only at hz2; subst hv2; simp only [seval, go_sem]
  have h2 : By z2 (frmHead f ++ f.data) (.slice A2 (5 + f.data.length) c2) := head_by hg hB hc2 (head_bc hg) hr2 rfl
  refine tT ?_; refine callP (crcPut_s _ _ z2 h2 (by simp [frmHead]; omega)) rfl rfl ?_; rintro v z3 hz3 hv; refine gO ?_
  obtain ⟨A3, c3, rfl, hc3, _⟩ := hv.form
  (first|refine fN ?_|exact fZ)
  rw [frmBytes_ok hg]
  exact hv
theorem frmRead_no {l : List Int} (h : crcCut l = none) : frmRead l = none := by unfold frmRead; rw [h]
theorem frmRead_short {l b : List Int} (h : crcCut l = some b) (hb : b.length < 5) : frmRead l = none := by unfold frmRead; rw [h]; simp only; rw [if_neg (by omega)]
theorem frmRead_not {l b : List Int} (h : crcCut l = some b) (hn : frmBytes (frmOf b) ≠ l) : frmRead l = none := by unfold frmRead; rw [h]; simp only; rw [if_neg (fun k => hn k.2)]
theorem frmRead_yes {l b : List Int} (h : crcCut l = some b) (hb : 5 ≤ b.length) (hn : frmBytes (frmOf b) = l) : frmRead l = some (frmOf b) := by unfold frmRead; rw [h]; simp only; rw [if_pos ⟨hb, hn⟩]
theorem five {b : List Int} (h : 5 ≤ b.length) : ∃ b0 b1 b2 b3 b4 d, b = b0 :: b1 :: b2 :: b3 :: b4 :: d := by
 match b, h with
 | b0 :: b1 :: b2 :: b3 :: b4 :: d, _ => exact ⟨_, _, _, _, _, _, rfl⟩
theorem and_flags {x : Int} (h : 0 ≤ x ∧ x ≤ 255) : (bits .and .i64 x 1 == 1) = decide (x % 2 = 1) ∧ (bits .and .i64 x 2 == 2) = decide (x / 2 % 2 = 1) := by
 obtain ⟨n, rfl⟩ := Int.eq_ofNat_of_zero_le h.1
 have h2 : ∀ z : Fin 256, (z.val &&& 2) = z.val / 2 % 2 * 2 := by decide
 have e2 := h2 ⟨n, by omega⟩
 simp only at e2
 have a2 := bits_and_i64 n 2 (by omega) (by omega)
 rw [e2] at a2
 have a2' : bits .and .i64 (n : Int) 2 = ((n / 2 % 2 * 2 : Nat) : Int) := a2
 rw [and_one n (by omega), a2']
 constructor
 ·rw [Bool.eq_iff_iff]; simp <;> omega
 ·rw [Bool.eq_iff_iff]; simp <;> omega
theorem frmRead_i (l : List Int) (v : Value) (z : Zc) (h : By z l v) (hl : l.length ≤ 100000) : PSpec Tryz.prog 30 [v] z fun v z' => match frmRead l with
  | some f => ∃ u, v = .tuple #[vFrm f u, .bool true] ∧ By z' f.data u
  | none => v = .tuple #[vFrm frm0 (.slice none 0 0), .bool false] := by
 obtain ⟨A, c, rfl, hc, hB, hr⟩ := h.form
 refine eP k30 ?_
 refine gO ?_
 refine tT ?_; refine callP (crcCut_i l _ z h (by omega)) rfl rfl ?_; rintro v z1 hz1 hv; refine gO ?_
 cases hcut : crcCut l with
 | none =>
  rw [hcut] at hv
  subst hv
  (first|refine fN ?_|exact fZ)
  rw [frmRead_no hcut]
  rfl
 | some b =>
  rw [hcut] at hv
  obtain ⟨u, rfl, hb⟩ := hv
  obtain ⟨A1, c1, rfl, hc1, hB1, hr1⟩ := hb.form
  have hlb : b.length + 2 = l.length := by rw [crcCut_some hcut, crcPut_length]
  refine gO ?_
  (with_reducible refine condI.split (fun hg => ?_) (fun hg => ?_) <;> (try simp only [hg]) <;> (try simp only [seval, go_sem]))
  ·(first|refine fN ?_|exact fZ)
   rw [frmRead_short hcut (by simp at hg; omega)]
   rfl
  ·obtain ⟨b0, b1, b2, b3, b4, d, rfl⟩ := five (b := b) (by simp at hg; omega)
   have q0 := hB1 b0 (by simp)
   have q1 := hB1 b1 (by simp)
   have q2 := hB1 b2 (by simp)
   have q3 := hB1 b3 (by simp)
   refine gO ?_
   have hl5 : ∀ k : Nat, k < 5 → IsAt A1 := fun k hk => byte_is hr1 (show k < (b0 :: b1 :: b2 :: b3 :: b4 :: d).length by simp; omega)
   refine ⟨⟨by omega, hl5 2 (by omega)⟩, ?_⟩
   (refine ldF.one _ (by first | exact .inl (byte_at hr1 (k := 2) rfl) | exact (byte_at hr1 (k := 2) rfl)) ?_; (try simp only [seval, go_sem]))
   refine gO ?_
   (with_reducible refine joinV.id ?_; simp only [seval, go_sem])
   have w1 : IntKind.i64.wrap b1 = b1 := wrap_in (by omega) (by omega)
   have w2 : IntKind.i64.wrap b2 = b2 := wrap_in (by omega) (by omega)
   have w3 : IntKind.i64.wrap b3 = b3 := wrap_in (by omega) (by omega)
   have w0 : IntKind.i64.wrap b0 = b0 := wrap_in (by omega) (by omega)
   refine ⟨⟨by omega, hl5 0 (by omega)⟩, ?_⟩
   (refine ldF.one _ (by first | exact .inl (byte_at hr1 (k := 0) rfl) | exact (byte_at hr1 (k := 0) rfl)) ?_; (try simp only [seval, go_sem]))
   refine ⟨⟨by omega, hl5 1 (by omega)⟩, ?_⟩
   (refine ldF.one _ (by first | exact .inl (byte_at hr1 (k := 1) rfl) | exact (byte_at hr1 (k := 1) rfl)) ?_; (try simp only [seval, go_sem]))
   refine ⟨⟨by omega, hl5 1 (by omega)⟩, ?_⟩
   (refine ldF.one _ (by first | exact .inl (byte_at hr1 (k := 1) rfl) | exact (byte_at hr1 (k := 1) rfl)) ?_; (try simp only [seval, go_sem]))
   refine ⟨⟨by omega, hl5 3 (by omega)⟩, ?_⟩
   (refine ldF.one _ (by first | exact .inl (byte_at hr1 (k := 3) rfl) | exact (byte_at hr1 (k := 3) rfl)) ?_; (try simp only [seval, go_sem]))
   simp only [w0, w1, w2, w3]
   obtain ⟨a1, a2⟩ := and_flags q2
   have t1 : IntKind.i64.wrap (b1.tdiv 16) = b1 / 16 := by rw [Int.tdiv_eq_ediv_of_nonneg (by omega), wrap_in (by omega) (by omega)]
   have t2 : b1.tmod 16 = b1 % 16 := Int.tmod_eq_emod_of_nonneg (by omega)
   have t3 : IntKind.i64.wrap (b2.tdiv 4) = b2 / 4 := by rw [Int.tdiv_eq_ediv_of_nonneg (by omega), wrap_in (by omega) (by omega)]
   have t4 : (b2 / 4).tmod 4 = b2 / 4 % 4 := Int.tmod_eq_emod_of_nonneg (by omega)
   have t5 : IntKind.i64.wrap (b2.tdiv 16) = b2 / 16 := by rw [Int.tdiv_eq_ediv_of_nonneg (by omega), wrap_in (by omega) (by omega)]
   simp only [a1, a2, t1, t2, t3, t4, t5]
   have hd : By z1 d (.slice (cutA A1 c1 5 1) (d.length + 1 + 1 + 1 + 1 + 1 - 5) (c1 - 5)) := hb.drop (k := 5)
   have hld : d.length ≤ 100000 := by simp at hlb; omega
   refine ⟨by omega, ?_, ?_⟩
   all_goals
    refine tT ?_; refine callP (cloneBy d _ z1 hd (by omega)) rfl rfl ?_; rintro v z2 hz2 ⟨A2, rfl, hB2, hr2⟩; refine gO ?_
   all_goals
    have hd2 : By z2 (frmOf (b0 :: b1 :: b2 :: b3 :: b4 :: d)).data (.slice A2 d.length d.length) := By.mk (Nat.le_refl _) hB2 hr2
   all_goals
    refine tT ?_; refine callP (frmBytes_i (frmOf (b0 :: b1 :: b2 :: b3 :: b4 :: d)) _ z2 hd2 hld) rfl rfl ?_; rintro v z3 hz3 hv; refine gO ?_
   all_goals
    obtain ⟨A3, c3, rfl, hc3, _⟩ := hv.form
    have hle := frmBytes_le (frmOf (b0 :: b1 :: b2 :: b3 :: b4 :: d))
   all_goals
    refine tT ?_; refine callP (equalB _ _ _ _ z3 hv (h.mono (Zc.trans' hz1 (Zc.trans' hz2 hz3))) (by omega) (by omega)) rfl rfl ?_; rintro _ _ - ⟨rfl, rfl⟩; refine gO ?_
   all_goals (with_reducible refine condI.split (fun hg => ?_) (fun hg => ?_) <;> (try simp only [hg]) <;> (try simp only [seval, go_sem]))
   all_goals simp only [Bool.not_eq_true', Bool.not_eq_false', decide_eq_true_eq, decide_eq_false_iff_not] at hg
   all_goals (first|refine fN ?_|exact fZ)
   all_goals first
    | (rw [frmRead_not hcut hg]; rfl)
    | (rw [frmRead_yes hcut (by simp) hg]; exact ⟨_, rfl, hd2.mono hz3⟩)
theorem crcPut_inj {l m : List Int} (h : crcPut l = crcPut m) : l = m := by
 have h1 := crcPut_take l
 rw [h, crcPut_take] at h1
 exact h1.symm
theorem frmHead_of {x0 x1 x2 x3 x4 : Int} {r : List Int} (y1 : 0 ≤ x1 ∧ x1 ≤ 255) (y2 : 0 ≤ x2 ∧ x2 ≤ 255) : frmHead (frmOf (x0 :: x1 :: x2 :: x3 :: x4 :: r)) ++ (frmOf (x0 :: x1 :: x2 :: x3 :: x4 :: r)).data = x0 :: x1 :: x2 :: x3 :: (r.length : Int) :: r := by
 have e1 : x1 / 16 * 16 + x1 % 16 = x1 := by omega
 have e2 : bit (decide (x2 % 2 = 1)) + 2 * bit (decide (x2 / 2 % 2 = 1)) + 4 * (x2 / 4 % 4) + 16 * (x2 / 16) = x2 := by
  unfold bit
  simp only [decide_eq_true_eq]
  split <;> split <;> omega
 simp only [frmHead, frmOf, List.cons_append, List.nil_append, List.getD_cons_zero, List.getD_cons_succ, List.drop_succ_cons, List.drop_zero]
 rw [e1, e2]
theorem frmRead_ref {l : List Int} {x0 x1 x2 x3 x4 : Int} {r : List Int} (hc : crcCut l = some (x0 :: x1 :: x2 :: x3 :: x4 :: r)) (y1 : 0 ≤ x1 ∧ x1 ≤ 255) (y2 : 0 ≤ x2 ∧ x2 ≤ 255) :
  frmRead l = if x4 = (r.length : Int) ∧ r.length ≤ 8 ∧ frmOk (frmOf (x0 :: x1 :: x2 :: x3 :: x4 :: r)) = true then some (frmOf (x0 :: x1 :: x2 :: x3 :: x4 :: r)) else none := by
 have hl := crcCut_some hc
 have hh := frmHead_of (x0 := x0) (x3 := x3) (x4 := x4) (r := r) y1 y2
 have hd : (frmOf (x0 :: x1 :: x2 :: x3 :: x4 :: r)).data = r := rfl
 have h0 : frmRead l = if 5 ≤ (x0 :: x1 :: x2 :: x3 :: x4 :: r).length ∧ frmBytes (frmOf (x0 :: x1 :: x2 :: x3 :: x4 :: r)) = l then some (frmOf (x0 :: x1 :: x2 :: x3 :: x4 :: r)) else none := by
  unfold frmRead; rw [hc]
 rw [h0]
 have hi : (5 ≤ (x0 :: x1 :: x2 :: x3 :: x4 :: r).length ∧ frmBytes (frmOf (x0 :: x1 :: x2 :: x3 :: x4 :: r)) = l) ↔ (x4 = (r.length : Int) ∧ r.length ≤ 8 ∧ frmOk (frmOf (x0 :: x1 :: x2 :: x3 :: x4 :: r)) = true) := by
  constructor
  ·rintro ⟨_, hb⟩
   by_cases ho : frmOk (frmOf (x0 :: x1 :: x2 :: x3 :: x4 :: r)) = true
   ·have hbd := (frmOk_bound ho).2.2.2.2.2.2
    rw [hd] at hbd
    rw [frmBytes_ok ho, hh, hl] at hb
    have := crcPut_inj hb
    simp only [List.cons.injEq, true_and, and_true] at this
    exact ⟨this.symm, hbd, ho⟩
   ·exfalso
    have hb' := hb
    unfold frmBytes at hb'
    rw [if_neg ho, hl] at hb'
    have := congrArg List.length hb'
    rw [crcPut_length] at this
    simp at this
  ·rintro ⟨h4, _, ho⟩
   refine ⟨by simp, ?_⟩
   rw [frmBytes_ok ho, hh, hl, h4]
 by_cases h : x4 = (r.length : Int) ∧ r.length ≤ 8 ∧ frmOk (frmOf (x0 :: x1 :: x2 :: x3 :: x4 :: r)) = true
 ·rw [if_pos h, if_pos (hi.2 h)]
 ·rw [if_neg h, if_neg (fun k => h (hi.1 k))]
theorem frmRead_s (l : List Int) (v : Value) (z : Zc) (h : By z l v) (hl : l.length ≤ 100000) : PSpec Tryz.prog 31 [v] z fun v z' => match frmRead l with
  | some f => ∃ u, v = .tuple #[vFrm f u, .bool true] ∧ By z' f.data u
  | none => v = .tuple #[vFrm frm0 (.slice none 0 0), .bool false] := by
 obtain ⟨A, c, rfl, hc, hB, hr⟩ := h.form
 refine eP k31 ?_
 refine gO ?_
 refine tT ?_; refine callP (crcCut_s l _ z h (by omega)) rfl rfl ?_; rintro v z1 hz1 hv; refine gO ?_
 obtain ⟨u, hv⟩ := hv
 cases hcut : crcCut l with
 | none =>
  rw [hcut] at hv
  obtain ⟨rfl, hv⟩ := hv
  obtain ⟨A1, c1, rfl, _⟩ := hv.form
  (first|refine fN ?_|exact fZ)
  rw [frmRead_no hcut]
  rfl
 | some b =>
  rw [hcut] at hv
  obtain ⟨rfl, hb⟩ := hv
  obtain ⟨A1, c1, rfl, hc1, hB1, hr1⟩ := hb.form
  have hlb : b.length + 2 = l.length := by rw [crcCut_some hcut, crcPut_length]
  refine gO ?_
  (with_reducible refine guardR.split (fun hg => ?_) (fun hg => ?_) <;> (try simp only [hg]) <;> simp only [seval, go_sem])
  ·(first|refine fN ?_|exact fZ)
   rw [frmRead_short hcut (by simp at hg; omega)]
   rfl
  ·obtain ⟨b0, b1, b2, b3, b4, d, rfl⟩ := five (b := b) (by simp at hg; omega)
   have q0 := hB1 b0 (by simp)
   have q1 := hB1 b1 (by simp)
   have q2 := hB1 b2 (by simp)
   have q3 := hB1 b3 (by simp)
   have q4 := hB1 b4 (by simp)
   have w4 : IntKind.i64.wrap b4 = b4 := wrap_in (by omega) (by omega)
   have hl5 : ∀ k : Nat, k < 5 → IsAt A1 := fun k hk => byte_is hr1 (show k < (b0 :: b1 :: b2 :: b3 :: b4 :: d).length by simp; omega)
   refine gO ?_
   have hrf := frmRead_ref hcut q1 q2
   have hld : d.length ≤ 100000 := by simp at hlb; omega
   have w5 : IntKind.i64.wrap (((d.length + 1 + 1 + 1 + 1 + 1 : Nat) : Int) - 5) = (d.length : Int) := by rw [wrap_in (by omega) (by omega)]; omega
   refine ⟨⟨by omega, hl5 4 (by omega)⟩, ?_⟩
   (refine ldF.one _ (by first | exact .inl (byte_at hr1 (k := 4) rfl) | exact (byte_at hr1 (k := 4) rfl)) ?_; (try simp only [seval, go_sem]))
   simp only [w4, w5]
   (try simp only [seval, go_sem]); repeat' (first | (with_reducible refine vsI.id ?_; (try simp only [seval, go_sem])) | (with_reducible refine vcI_cond ?_; (try simp only [seval, go_sem])) | (with_reducible refine guardR.split (fun hg => ?_) (fun hg => ?_) <;> (try simp only [hg]) <;> simp only [seval, go_sem]) | (with_reducible refine condI.split (fun hg => ?_) (fun hg => ?_) <;> (try simp only [hg]) <;> (try simp only [seval, go_sem])) | (with_reducible refine callM.toT ?_))
   all_goals (try ((first|refine fN ?_|exact fZ); rw [hrf, if_neg (fun k => by simp at hg; omega)]; rfl))
   have h4 : b4 = (d.length : Int) := by simp_all
   have h8 : d.length ≤ 8 := by simp at *; omega
   (with_reducible refine joinV.id ?_; simp only [seval, go_sem])
   refine ⟨⟨by omega, hl5 0 (by omega)⟩, ?_⟩
   (refine ldF.one _ (by first | exact .inl (byte_at hr1 (k := 0) rfl) | exact (byte_at hr1 (k := 0) rfl)) ?_; (try simp only [seval, go_sem]))
   refine ⟨⟨by omega, hl5 1 (by omega)⟩, ?_⟩
   (refine ldF.one _ (by first | exact .inl (byte_at hr1 (k := 1) rfl) | exact (byte_at hr1 (k := 1) rfl)) ?_; (try simp only [seval, go_sem]))
   refine ⟨⟨by omega, hl5 1 (by omega)⟩, ?_⟩
   (refine ldF.one _ (by first | exact .inl (byte_at hr1 (k := 1) rfl) | exact (byte_at hr1 (k := 1) rfl)) ?_; (try simp only [seval, go_sem]))
   refine ⟨⟨by omega, hl5 2 (by omega)⟩, ?_⟩
   (refine ldF.one _ (by first | exact .inl (byte_at hr1 (k := 2) rfl) | exact (byte_at hr1 (k := 2) rfl)) ?_; (try simp only [seval, go_sem]))
   refine ⟨⟨by omega, hl5 2 (by omega)⟩, ?_⟩
   (refine ldF.one _ (by first | exact .inl (byte_at hr1 (k := 2) rfl) | exact (byte_at hr1 (k := 2) rfl)) ?_; (try simp only [seval, go_sem]))
   refine ⟨⟨by omega, hl5 2 (by omega)⟩, ?_⟩
   (refine ldF.one _ (by first | exact .inl (byte_at hr1 (k := 2) rfl) | exact (byte_at hr1 (k := 2) rfl)) ?_; (try simp only [seval, go_sem]))
   refine ⟨⟨by omega, hl5 2 (by omega)⟩, ?_⟩
   (refine ldF.one _ (by first | exact .inl (byte_at hr1 (k := 2) rfl) | exact (byte_at hr1 (k := 2) rfl)) ?_; (try simp only [seval, go_sem]))
   refine ⟨⟨by omega, hl5 3 (by omega)⟩, ?_⟩
   (refine ldF.one _ (by first | exact .inl (byte_at hr1 (k := 3) rfl) | exact (byte_at hr1 (k := 3) rfl)) ?_; (try simp only [seval, go_sem]))
   have hd : By z1 d (.slice (cutA A1 c1 5 1) (d.length + 1 + 1 + 1 + 1 + 1 - 5) (c1 - 5)) := hb.drop (k := 5)
   obtain ⟨Ad, cd, hde, hcd, hBd, hrd⟩ := hd.form
   have hde' : (.slice (cutA A1 c1 5 1) (d.length + 1 + 1 + 1 + 1 + 1 - 5) (c1 - 5) : Value) = .slice Ad d.length cd := hde
   simp only [seval] at hde'
   simp only [hde']
   refine ⟨by omega, ?_⟩
   repeat' refine And.intro ?_ ?_
   all_goals
    refine aT ?_; (refine appM_empty 99 atyB rfl (by first | exact .inl ⟨_, rfl⟩ | exact .inr ⟨_, _, rfl⟩) rfl hrd (by first | omega | (simp <;> omega)) (bc_one _) (by omega) (fun A2 c2 z2 hz2 hc2 hr2 => ?_)); dsimp only at hz2; refine gO ?_
   all_goals
    have e0 : IntKind.i64.wrap b0 = b0 := wrap_in (by omega) (by omega)
    have e3 : IntKind.i64.wrap b3 = b3 := wrap_in (by omega) (by omega)
    have e1 : IntKind.i64.wrap (IntKind.u8.wrap (b1.tdiv 16)) = b1 / 16 := by rw [Int.tdiv_eq_ediv_of_nonneg (by omega), IntKind.wrap_u8, IntKind.wrap_i64]; omega
    have e2 : IntKind.i64.wrap (b1.tmod 16) = b1 % 16 := by rw [Int.tmod_eq_emod_of_nonneg (by omega), IntKind.wrap_i64]; omega
    have e4 : (b2.tmod 2 == 1) = decide (b2 % 2 = 1) := by rw [Int.tmod_eq_emod_of_nonneg (by omega), Bool.eq_iff_iff]; simp
    have e5 : ((IntKind.u8.wrap (b2.tdiv 2)).tmod 2 == 1) = decide (b2 / 2 % 2 = 1) := by
     rw [Int.tdiv_eq_ediv_of_nonneg (by omega), IntKind.wrap_u8, Int.tmod_eq_emod_of_nonneg (by omega), Bool.eq_iff_iff]; simp <;> omega
    have e6 : IntKind.i64.wrap ((IntKind.u8.wrap (b2.tdiv 4)).tmod 4) = b2 / 4 % 4 := by
     rw [Int.tdiv_eq_ediv_of_nonneg (by omega), IntKind.wrap_u8, Int.tmod_eq_emod_of_nonneg (by omega), IntKind.wrap_i64]; omega
    have e7 : IntKind.i64.wrap (IntKind.u8.wrap (b2.tdiv 16)) = b2 / 16 := by rw [Int.tdiv_eq_ediv_of_nonneg (by omega), IntKind.wrap_u8, IntKind.wrap_i64]; omega
    have hd2 : By z2 (frmOf (b0 :: b1 :: b2 :: b3 :: b4 :: d)).data (.slice A2 d.length c2) := By.mk hc2 hBd hr2
    simp only [e0, e1, e2, e3, e4, e5, e6, e7]
   all_goals
    refine tT ?_; refine callP (frmOk_s (frmOf (b0 :: b1 :: b2 :: b3 :: b4 :: d)) _ z2 hd2 (by show d.length ≤ _; omega)) rfl rfl ?_; rintro _ _ - ⟨rfl, rfl⟩; refine gO ?_
   all_goals (with_reducible refine condI.split (fun hg => ?_) (fun hg => ?_) <;> (try simp only [hg]) <;> (try simp only [seval, go_sem]))
   all_goals (first|refine fN ?_|exact fZ)
   all_goals simp only [Bool.not_eq_true', Bool.not_eq_false'] at hg
   all_goals first
    | (rw [hrf, if_neg (fun k => by rw [hg] at k; exact absurd k.2.2 (by decide))]; rfl)
    | (rw [hrf, if_pos ⟨h4, h8, hg⟩]; exact ⟨_, rfl, hd2⟩)
end Go.Proofs.YtllafcmkppmdgaaGreat
