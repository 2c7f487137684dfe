/- HexText and HexRead are each other's way back. -/
import Derived.Test.YtohmnedenhngpaaPFnHexTextx3
set_option linter.unusedVariables false
set_option linter.unusedSimpArgs false
namespace Go.Proofs.Ytohmnedenhngpaa.Pure
open Go.RowKit Go.Proofs.Ytohmnedenhngpaa.PFnHexText Go.Proofs.YtohmnedenhngpaaW.PrintWords Go.Proofs.YtohmnedenhngpaaW.PrintLast

theorem wrap_id {i : Int} (h0 : -9223372036854775808 ≤ i) (h : i ≤ 9223372036854775807) : wrap64 i = i := by
  unfold wrap64; omega
theorem rd_lt (l : List Int) (i : Nat) (h : i < l.length) : rd l (i : Int) = l[i] := by
  simp [rd, List.getD_eq_getElem?_getD, List.getElem?_eq_getElem h]

theorem liBytes_l (a b : List Int) (he : a.length = b.length) (hl : a.length ≤ 140737488355328) (d : Nat) : ∀ i : Nat, a.length - i = d → i ≤ a.length → Ev (fun k => laws_liBytes.l0 k a b (i : Int)) (decide (a.drop i = b.drop i)) := by
  induction d with
  | zero =>
    intro i hd hi
    refine Ev.step (fun _ => rfl) ?_
    simp only [laws_liBytes.l0]
    simp only [if_neg (show ¬ ((i : Int) < (a.length : Int)) by omega)]
    rw [List.drop_of_length_le (by omega), List.drop_of_length_le (by omega)]
    exact Ev.now _
  | succ d ih =>
    intro i hd hi
    refine Ev.step (fun _ => rfl) ?_
    simp only [laws_liBytes.l0]
    simp only [if_pos (show (i : Int) < (a.length : Int) by omega), if_pos (show (0 : Int) ≤ (i : Int) by omega), if_pos (show (i : Int) < (b.length : Int) by omega)]
    rw [rd_lt a i (by omega), rd_lt b i (by omega), List.drop_eq_getElem_cons (show i < a.length by omega), List.drop_eq_getElem_cons (show i < b.length by omega)]
    by_cases h : a[i] = b[i]
    · simp only [if_pos h]
      rw [wrap_id (by omega) (by omega)]
      have := ih (i + 1) (by omega) (by omega)
      have e : decide (a[i] :: List.drop (i + 1) a = b[i] :: List.drop (i + 1) b) = decide (List.drop (i + 1) a = List.drop (i + 1) b) := by simp only [h, List.cons.injEq, true_and]
      rw [e]
      exact this
    · simp only [if_neg h]
      have e : decide (a[i] :: List.drop (i + 1) a = b[i] :: List.drop (i + 1) b) = false := decide_eq_false (fun hh => h (List.cons.inj hh).1)
      rw [e]
      exact Ev.now _
theorem liBytes_ev (a b : List Int) (hl : a.length ≤ 140737488355328) : Ev (fun k => laws_liBytes.f k a b) (decide (a = b)) := by
  unfold laws_liBytes.f
  by_cases he : a.length = b.length
  · simp only [if_pos (show (a.length : Int) = (b.length : Int) by omega)]
    exact liBytes_l a b he hl _ 0 rfl (by omega)
  · simp only [if_neg (show ¬ (a.length : Int) = (b.length : Int) by omega)]
    have e : decide (a = b) = false := decide_eq_false (fun h => he (by rw [h]))
    rw [e]
    exact Ev.now _

theorem hexText_some' (l : List Int) (h : ∀ x ∈ l, 0 ≤ x ∧ x ≤ 255) (hl : l.length ≤ 1048576) : impl_HexText.f l = some ⟨(hexL l).toArray⟩ ∧ spec_HexText.f l = some ⟨(hexL l).toArray⟩ := by
  unfold impl_HexText.f spec_HexText.f
  exact ⟨if_pos ⟨h, by omega⟩, if_pos ⟨h, by omega⟩⟩
theorem wf_bytes {l : List Int} (h : ∀ x ∈ l, (Lit.int .u8 x).wf = true) : ∀ x ∈ l, 0 ≤ x ∧ x ≤ 255 := by
  intro x hx
  have := h x hx
  simp [Lit.wf, IntKind.min, IntKind.max, IntKind.signed, IntKind.bits] at this
  omega

/- the reader of a code: what it picks -/
def Bytes (b : List Int) : Prop := ∀ x ∈ b, 0 ≤ x ∧ x ≤ 255
theorem Bytes.rdb {b : List Int} (h : Bytes b) (i : Int) : 0 ≤ rd b i ∧ rd b i ≤ 255 := by
  unfold rd
  by_cases hi : i.toNat < b.length
  · rw [List.getD_eq_getElem?_getD, List.getElem?_eq_getElem hi]
    exact h _ (List.getElem_mem hi)
  · rw [List.getD_eq_getElem?_getD, List.getElem?_eq_none (by omega)]
    simp
theorem xor_nat (a b : Nat) (ha : a < 2 ^ 62) (hb : b < 2 ^ 62) : Go.bits .xor .i64 a b = ((a ^^^ b : Nat) : Int) := by
  have ha' : a % 2 ^ 64 = a := Nat.mod_eq_of_lt (by omega)
  have hb' : b % 2 ^ 64 = b := Nat.mod_eq_of_lt (by omega)
  have hx : a ^^^ b < 2 ^ 62 := Nat.xor_lt_two_pow ha hb
  have hv : (BitVec.ofNat 64 a ^^^ BitVec.ofNat 64 b).toNat = a ^^^ b := by rw [BitVec.toNat_xor, BitVec.toNat_ofNat, BitVec.toNat_ofNat, ha', hb']
  simp only [Go.bits, BitVec.ofInt_natCast, IntKind.bits]
  show IntKind.i64.wrap (((BitVec.ofNat 64 a ^^^ BitVec.ofNat 64 b).toNat : Nat) : Int) = _
  rw [hv, IntKind.wrap_i64]
  omega
theorem xor_nn {a b : Int} (ha : 0 ≤ a) (ha' : a < 2 ^ 62) (hb : 0 ≤ b) (hb' : b < 2 ^ 62) : 0 ≤ Go.bits .xor .i64 a b := by
  obtain ⟨m, rfl⟩ := Int.eq_ofNat_of_zero_le ha
  obtain ⟨n, rfl⟩ := Int.eq_ofNat_of_zero_le hb
  show 0 ≤ Go.bits .xor .i64 (m : Int) (n : Int)
  rw [xor_nat m n (by omega) (by omega)]
  exact Int.natCast_nonneg _
theorem pick_ev (b : List Int) (hb : Bytes b) (p n : Int) (h0 : 0 ≤ p) (hp : p ≤ 1099511627776) :
    ∃ x, Ev (fun k => spec_l20Rd_pick.f k b p n) (x, p + 1) ∧ (1 ≤ n → 0 ≤ x ∧ x < n) ∧ (n < 1 → x = 0) := by
  unfold spec_l20Rd_pick.f
  rw [wrap_id (i := p + 1) (by omega) (by omega)]
  by_cases hn : n < 1
  · refine ⟨0, ?_, fun h => by omega, fun _ => rfl⟩
    simp only [if_pos hn]
    refine Ev.step (fun _ => rfl) ?_
    simp only [spec_l20Rd_pick.j0, if_true]
    exact Ev.now _
  · simp only [if_neg hn]
    by_cases hl : b.length = 0
    · refine ⟨0, ?_, fun h => by omega, fun h => by omega⟩
      rw [show (((b.length : Int) == 0) = true) from by simp [hl]]
      refine Ev.step (fun _ => rfl) ?_
      simp only [spec_l20Rd_pick.j0, if_true]
      exact Ev.now _
    · rw [show (((b.length : Int) == 0) = false) from beq_eq_false_iff_ne.mpr (by omega)]
      have e1 : wrap64 (p + 1 - 1) = p := by rw [wrap_id (by omega) (by omega)]; omega
      by_cases hlt : p < (b.length : Int)
      · have hr := hb.rdb p
        refine ⟨Int.tmod (rd b p) n, ?_, fun h => ⟨Int.tmod_nonneg _ hr.1, Int.tmod_lt_of_pos _ (by omega)⟩, fun h => by omega⟩
        refine Ev.step (fun _ => rfl) ?_
        simp only [spec_l20Rd_pick.j0, Bool.false_eq_true, if_false, e1, if_pos hlt, if_pos h0, if_neg (show ¬ n = 0 by omega)]
        rw [wrap_id (i := rd b p) (by omega) (by omega)]
        exact Ev.now _
      · have hL : (0 : Int) < b.length := by omega
        have a1 : wrap64 (p * 7) = p * 7 := wrap_id (by omega) (by omega)
        have a2 : wrap64 (p * 7 + 3) = p * 7 + 3 := wrap_id (by omega) (by omega)
        have i1 : 0 ≤ Int.tmod p b.length := Int.tmod_nonneg _ h0
        have i2 : Int.tmod p b.length < b.length := Int.tmod_lt_of_pos _ hL
        have i3 : 0 ≤ Int.tmod (p * 7 + 3) b.length := Int.tmod_nonneg _ (by omega)
        have i4 : Int.tmod (p * 7 + 3) b.length < b.length := Int.tmod_lt_of_pos _ hL
        have r1 := hb.rdb (Int.tmod p b.length)
        have r2 := hb.rdb (Int.tmod (p * 7 + 3) b.length)
        have q1 : 0 ≤ Int.tdiv p b.length := Int.tdiv_nonneg h0 (by omega)
        have q2 : Int.tdiv p b.length ≤ p := by
          rw [Int.tdiv_eq_ediv_of_nonneg h0]
          exact Int.ediv_le_self _ h0
        obtain ⟨u, hu⟩ : ∃ u, rd b (Int.tmod p b.length) = u := ⟨_, rfl⟩
        obtain ⟨v, hv⟩ : ∃ v, rd b (Int.tmod (p * 7 + 3) b.length) = v := ⟨_, rfl⟩
        obtain ⟨z, hz⟩ : ∃ z, Int.tdiv p b.length = z := ⟨_, rfl⟩
        rw [hu] at r1; rw [hv] at r2; rw [hz] at q1 q2
        have e : ∃ x, Ev (fun k => spec_l20Rd_pick.j0 k n false b (p + 1)) (Int.tmod x n, p + 1) ∧ 0 ≤ x := by
          refine Exists.intro ?w (And.intro ?a ?b)
          case a =>
            refine Ev.step (fun _ => rfl) ?_
            simp only [spec_l20Rd_pick.j0, Bool.false_eq_true, if_false, e1, if_neg hlt, if_neg (show ¬ ((b.length : Int) = 0) by omega), if_pos i1, if_pos i2, a1, a2, if_pos i3, if_pos i4, if_neg (show ¬ n = 0 by omega), hu, hv, hz]
            exact Ev.now _
          · have w1 : wrap64 u = u := wrap_id (by omega) (by omega)
            have w2 : wrap64 v = v := wrap_id (by omega) (by omega)
            have w3 : wrap64 z = z := wrap_id (by omega) (by omega)
            have w4 : wrap64 (u * 131) = u * 131 := wrap_id (by omega) (by omega)
            have w5 : wrap64 (v * 1117) = v * 1117 := wrap_id (by omega) (by omega)
            have w6 : wrap64 (p * 29) = p * 29 := wrap_id (by omega) (by omega)
            have w7 : wrap64 (z * 53) = z * 53 := wrap_id (by omega) (by omega)
            have w8 : wrap64 (u * 131 + v * 1117) = u * 131 + v * 1117 := wrap_id (by omega) (by omega)
            have w9 : wrap64 (u * 131 + v * 1117 + p * 29) = u * 131 + v * 1117 + p * 29 := wrap_id (by omega) (by omega)
            have w10 : wrap64 (u * 131 + v * 1117 + p * 29 + z * 53) = u * 131 + v * 1117 + p * 29 + z * 53 := wrap_id (by omega) (by omega)
            rw [w1, w2, w3, w4, w5, w6, w7, w8, w9, w10]
            have hn : 0 ≤ u * 131 + v * 1117 + p * 29 + z * 53 := by omega
            rw [Int.tdiv_eq_ediv_of_nonneg hn, wrap_id (by omega) (by omega)]
            exact xor_nn hn (by omega) (by omega) (by omega)
        obtain ⟨x, he, hx⟩ := e
        exact ⟨_, he, fun h => ⟨Int.tmod_nonneg _ hx, Int.tmod_lt_of_pos _ (by omega)⟩, fun h => by omega⟩
theorem open_f (c : List Int) : ∃ b, spec_l20Open.f c = some (b, 0) ∧ (Bytes c → Bytes b) ∧ b.length ≤ 2000 := by
  unfold spec_l20Open.f
  by_cases h : (c.length : Int) > 2000
  · refine ⟨c.take 2000, by rw [if_pos h, if_pos (by omega)], fun hc x hx => hc x (List.mem_of_mem_take hx), by simp; omega⟩
  · exact ⟨c, by rw [if_neg h], fun hc => hc, by omega⟩

theorem l20Bytes_l (b : List Int) (hb : Bytes b) (d : Nat) : ∀ (p : Int) (l : List Int), 0 ≤ p → p + 3 * d ≤ 1099511627776 → Bytes l → l.length + d ≤ 1000000 →
    ∃ r p', Ev (fun k => spec_l20Bytes.l0 k l (d : Int) b p) (r, p') ∧ Bytes r ∧ r.length = l.length + d ∧ p ≤ p' ∧ p' ≤ p + 3 * d := by
  induction d with
  | zero =>
    intro p l h0 hp hl hn
    refine ⟨l, p, Ev.step (fun _ => rfl) ?_, hl, by omega, by omega, by omega⟩
    simp only [spec_l20Bytes.l0]
    simp only [if_neg (show ¬ (((0 : Nat) : Int) > 0) by omega)]
    exact Ev.now _
  | succ d ih =>
    intro p l h0 hp hl hn
    obtain ⟨x1, e1, b1, -⟩ := pick_ev b hb p 256 h0 (by omega)
    obtain ⟨x2, e2, b2, -⟩ := pick_ev b hb (p + 1) 4 (by omega) (by omega)
    obtain ⟨x3, e3, b3, -⟩ := pick_ev b hb (p + 1 + 1) 3 (by omega) (by omega)
    have b1 := b1 (by omega)
    have b2 := b2 (by omega)
    have b3 := b3 (by omega)
    have hmod : ∃ y, rd [x1, x2, 255] x3 % 256 = y ∧ 0 ≤ y ∧ y ≤ 255 := ⟨_, rfl, by omega, by omega⟩
    obtain ⟨y, hy, hy0, hy1⟩ := hmod
    obtain ⟨r, p', er, hr, hlen, hp1, hp2⟩ := ih (p + 1 + 1 + 1) (l ++ [y]) (by omega) (by omega) (by
      intro z hz
      rcases List.mem_append.mp hz with hz | hz
      · exact hl z hz
      · rw [List.mem_singleton.mp hz]; exact ⟨hy0, hy1⟩) (by simp; omega)
    refine ⟨r, p', Ev.step (fun _ => rfl) ?_, hr, by simp at hlen; omega, by omega, by omega⟩
    simp only [spec_l20Bytes.l0]
    simp only [if_pos (show (((d + 1 : Nat) : Int) > 0) by omega)]
    refine Ev.bind e1 (Ev.bind e2 ?_)
    simp only [Option.bind_some]
    refine Ev.bind e3 ?_
    simp only [if_pos b3.1, if_pos (show x3 < (([x1, x2, 255] : List Int).length : Int) from b3.2), if_pos (show l.length < 140737488355328 by omega), hy]
    rw [wrap_id (by omega) (by omega)]
    have e : ((d + 1 : Nat) : Int) - 1 = (d : Int) := by omega
    rw [e]
    exact er
theorem l20Bytes_ev (b : List Int) (hb : Bytes b) (p n : Int) (h0 : 0 ≤ p) (hp : p ≤ 1000000000) (hn : 0 ≤ n) (hn' : n ≤ 100000) :
    ∃ r p', Ev (fun k => spec_l20Bytes.f k b p n) (r, p') ∧ Bytes r ∧ (r.length : Int) ≤ n ∧ p ≤ p' ∧ p' ≤ p + 1 + 3 * n := by
  unfold spec_l20Bytes.f
  rw [wrap_id (i := n + 1) (by omega) (by omega)]
  obtain ⟨x, e, bx, -⟩ := pick_ev b hb p (n + 1) h0 (by omega)
  have bx := bx (by omega)
  obtain ⟨m, rfl⟩ := Int.eq_ofNat_of_zero_le bx.1
  obtain ⟨r, p', er, hr, hlen, hp1, hp2⟩ := l20Bytes_l b hb m (p + 1) [] (by omega) (by omega) (by intro x hx; cases hx) (by simp; omega)
  exact ⟨r, p', Ev.bind e er, hr, by simp at hlen; omega, by omega, by omega⟩

theorem DrawHexText_ev (c : List Int) (hc : Bytes c) : ∃ r, Ev (fun k => spec_DrawHexText.f k c) r ∧ Bytes r ∧ r.length ≤ 12 := by
  obtain ⟨b, hb, hbb, -⟩ := open_f c
  obtain ⟨r, p', e, hr, hl, -, -⟩ := l20Bytes_ev b (hbb hc) 0 12 (by omega) (by omega) (by omega) (by omega)
  refine ⟨r, ?_, hr, by omega⟩
  unfold spec_DrawHexText.f
  simp only [hb, Option.bind_some]
  exact Ev.bind e (Ev.now _)

theorem ex_size (s : ByteArray) (i j : Nat) : (s.extract i j).size ≤ s.size := by
  rw [ByteArray.size_extract]; omega
theorem l20Bent_ev (b : List Int) (hb : Bytes b) (p : Int) (s : ByteArray) (h0 : 0 ≤ p) (hp : p ≤ 1000000000) (hs : s.size ≤ 100000) :
    ∃ r p', Ev (fun k => spec_l20Bent.f k b p s) (r, p') ∧ r.size ≤ s.size + 1 ∧ p ≤ p' ∧ p' ≤ p + 10 := by
  unfold spec_l20Bent.f
  rw [wrap_id (i := (s.size : Int) + 1) (by omega) (by omega)]
  obtain ⟨x1, e1, b1, -⟩ := pick_ev b hb p ((s.size : Int) + 1) h0 (by omega)
  obtain ⟨x2, e2, b2, -⟩ := pick_ev b hb (p + 1) 256 (by omega) (by omega)
  obtain ⟨x3, e3, b3, -⟩ := pick_ev b hb (p + 1 + 1) 7 (by omega) (by omega)
  obtain ⟨x4, e4, b4, -⟩ := pick_ev b hb (p + 1 + 1 + 1) 3 (by omega) (by omega)
  have b1 := b1 (by omega)
  have b2 := b2 (by omega)
  have b3 := b3 (by omega)
  have b4 := b4 (by omega)
  obtain ⟨c, hc, hcs⟩ : ∃ c : ByteArray, strOfNums [(rd [32, 48, 49, 57, 97, 103, x2] x3) % 256] = c ∧ c.size = 1 := ⟨_, rfl, rfl⟩
  have z1 := ex_size s 0 x1.toNat
  have z2 := ex_size s x1.toNat s.size
  have z3 := ex_size s (x1 + 1).toNat s.size
  by_cases c0 : x4 = 0
  · refine ⟨s.extract 0 x1.toNat ++ c ++ s.extract x1.toNat s.size, p + 1 + 1 + 1 + 1, ?_, ?_, by omega, by omega⟩
    · refine Ev.bind e1 (Ev.bind e2 ?_)
      simp only [Option.bind_some]
      refine Ev.bind e3 ?_
      simp only [if_pos b3.1, if_pos (show x3 < (([32, 48, 49, 57, 97, 103, x2] : List Int).length : Int) from b3.2), hc, Option.bind_some]
      refine Ev.bind e4 ?_
      simp only [if_pos c0, if_pos b1.1, if_pos (show x1 ≤ (s.size : Int) by omega)]
      rw [if_pos (by omega), if_pos (by rw [ByteArray.size_append]; omega)]
      exact Ev.now _
    · simp only [ByteArray.size_append, ByteArray.size_extract]; omega
  · by_cases c1 : x4 = 1
    · by_cases c2 : x1 < (s.size : Int)
      · refine ⟨s.extract 0 x1.toNat ++ s.extract (x1 + 1).toNat s.size, p + 1 + 1 + 1 + 1, ?_, ?_, by omega, by omega⟩
        · refine Ev.bind e1 (Ev.bind e2 ?_)
          simp only [Option.bind_some]
          refine Ev.bind e3 ?_
          simp only [if_pos b3.1, if_pos (show x3 < (([32, 48, 49, 57, 97, 103, x2] : List Int).length : Int) from b3.2), hc, Option.bind_some]
          refine Ev.bind e4 ?_
          simp only [if_neg c0, if_pos c1, if_pos c2, if_pos b1.1, if_pos (show x1 ≤ (s.size : Int) by omega), wrap_id (i := x1 + 1) (by omega) (by omega), if_pos (show 0 ≤ x1 + 1 by omega), if_pos (show x1 + 1 ≤ (s.size : Int) by omega)]
          rw [if_pos (by omega)]
          exact Ev.now _
        · simp only [ByteArray.size_append, ByteArray.size_extract]; omega
      · refine ⟨s, p + 1 + 1 + 1 + 1, ?_, by omega, by omega, by omega⟩
        refine Ev.bind e1 (Ev.bind e2 ?_)
        simp only [Option.bind_some]
        refine Ev.bind e3 ?_
        simp only [if_pos b3.1, if_pos (show x3 < (([32, 48, 49, 57, 97, 103, x2] : List Int).length : Int) from b3.2), hc, Option.bind_some]
        refine Ev.bind e4 ?_
        simp only [if_neg c0, if_pos c1, if_neg c2]
        exact Ev.now _
    · by_cases c2 : x1 < (s.size : Int)
      · refine ⟨s.extract 0 x1.toNat ++ c ++ s.extract (x1 + 1).toNat s.size, p + 1 + 1 + 1 + 1, ?_, ?_, by omega, by omega⟩
        · refine Ev.bind e1 (Ev.bind e2 ?_)
          simp only [Option.bind_some]
          refine Ev.bind e3 ?_
          simp only [if_pos b3.1, if_pos (show x3 < (([32, 48, 49, 57, 97, 103, x2] : List Int).length : Int) from b3.2), hc, Option.bind_some]
          refine Ev.bind e4 ?_
          simp only [if_neg c0, if_neg c1, if_pos c2, if_pos b1.1, if_pos (show x1 ≤ (s.size : Int) by omega), wrap_id (i := x1 + 1) (by omega) (by omega), if_pos (show 0 ≤ x1 + 1 by omega), if_pos (show x1 + 1 ≤ (s.size : Int) by omega)]
          rw [if_pos (by omega), if_pos (by rw [ByteArray.size_append]; omega)]
          exact Ev.now _
        · simp only [ByteArray.size_append, ByteArray.size_extract]; omega
      · refine ⟨s, p + 1 + 1 + 1 + 1, ?_, by omega, by omega, by omega⟩
        refine Ev.bind e1 (Ev.bind e2 ?_)
        simp only [Option.bind_some]
        refine Ev.bind e3 ?_
        simp only [if_pos b3.1, if_pos (show x3 < (([32, 48, 49, 57, 97, 103, x2] : List Int).length : Int) from b3.2), hc, Option.bind_some]
        refine Ev.bind e4 ?_
        simp only [if_neg c0, if_neg c1, if_neg c2]
        exact Ev.now _

theorem DrawHexRead_ev (c : List Int) (hc : Bytes c) : ∃ r, Ev (fun k => spec_DrawHexRead.f k c) r ∧ r.size ≤ 17 := by
  obtain ⟨b, hb, hbb, -⟩ := open_f c
  obtain ⟨l, p', e, hr, hl, hp1, hp2⟩ := l20Bytes_ev b (hbb hc) 0 8 (by omega) (by omega) (by omega) (by omega)
  obtain ⟨x, ex, bx, -⟩ := pick_ev b (hbb hc) p' 3 (by omega) (by omega)
  obtain ⟨-, h2⟩ := hexText_some' l hr (by omega)
  have hsz : (⟨(hexL l).toArray⟩ : ByteArray).size ≤ 16 := by
    show (hexL l).toArray.size ≤ 16
    rw [List.size_toArray, hexL_length]; omega
  obtain ⟨r, p2, er, hrs, -, -⟩ := l20Bent_ev b (hbb hc) (p' + 1) ⟨(hexL l).toArray⟩ (by omega) (by omega) (by omega)
  by_cases h : x = 0
  · refine ⟨r, ?_, by omega⟩
    unfold spec_DrawHexRead.f
    simp only [hb, Option.bind_some]
    refine Ev.bind e ?_
    simp only [h2, Option.bind_some]
    refine Ev.bind ex ?_
    simp only [if_pos h]
    exact Ev.bind er (Ev.now _)
  · refine ⟨⟨(hexL l).toArray⟩, ?_, by omega⟩
    unfold spec_DrawHexRead.f
    simp only [hb, Option.bind_some]
    refine Ev.bind e ?_
    simp only [h2, Option.bind_some]
    refine Ev.bind ex ?_
    simp only [if_neg h]
    exact Ev.now _

theorem l10Digit_ev (c : Int) (h0 : 0 ≤ c) (h1 : c ≤ 255) : Ev (fun k => spec_l10Digit.f k c) (hexDig c) := by
  unfold spec_l10Digit.f hexDig
  by_cases ha : 48 ≤ c ∧ c ≤ 57
  · simp only [if_pos ha, if_pos (show c ≥ 48 from ha.1)]
    refine Ev.step (fun _ => rfl) ?_
    simp only [spec_l10Digit.j0, decide_eq_true ha.2, if_true]
    have : (c - 48) % 256 = c - 48 := by omega
    rw [this]
    exact Ev.now _
  · simp only [if_neg ha]
    have key : Ev (fun k => spec_l10Digit.j0 k c false) (if 97 ≤ c ∧ c ≤ 102 then c - 87 else -1) := by
      refine Ev.step (fun _ => rfl) ?_
      simp only [spec_l10Digit.j0, Bool.false_eq_true, if_false]
      by_cases hb : c ≥ 97
      · simp only [if_pos hb]
        by_cases hc : c ≤ 102
        · simp only [if_pos hc, if_pos (show 97 ≤ c ∧ c ≤ 102 from ⟨hb, hc⟩)]
          have : (c - 97) % 256 + 10 = c - 87 := by omega
          rw [this]
          exact Ev.now _
        · simp only [if_neg hc, if_neg (show ¬ (97 ≤ c ∧ c ≤ 102) from fun h => hc h.2)]
          exact Ev.now _
      · simp only [if_neg hb, if_neg (show ¬ (97 ≤ c ∧ c ≤ 102) from fun h => hb h.1)]
        exact Ev.now _
    by_cases hb : c ≥ 48
    · simp only [if_pos hb]
      rw [show decide (c ≤ 57) = false from decide_eq_false (by omega)]
      exact key
    · simp only [if_neg hb]
      exact key
theorem specHexRead_l (s : ByteArray) (n : Nat) (hn : s.size = 2 * n) (hs : s.size ≤ 140737488351232) (d : Nat) : ∀ (i : Nat) (l : List Int), n - i = d → i ≤ n → hexRL s i = some l →
    Ev (fun k => spec_HexRead.l0 k s l (2 * i : Int)) (match hexRL s n with | some l => (l, true) | none => ([], false)) := by
  induction d with
  | zero =>
    intro i l hd hi hl
    obtain rfl : i = n := by omega
    refine Ev.step (fun _ => rfl) ?_
    simp only [spec_HexRead.l0]
    simp only [if_neg (show ¬ ((2 * i : Int) < (s.size : Int)) by omega), hl]
    exact Ev.now _
  | succ d ih =>
    intro i l hd hi hl
    refine Ev.step (fun _ => rfl) ?_
    simp only [spec_HexRead.l0]
    rw [wrap_id (i := (2 * i : Int) + 1) (by omega) (by omega)]
    simp only [if_pos (show (2 * i : Int) < (s.size : Int) by omega), if_pos (show (0 : Int) ≤ 2 * i by omega), if_pos (show (0 : Int) ≤ 2 * i + 1 by omega), if_pos (show (2 * i : Int) + 1 < (s.size : Int) by omega)]
    have b1 := bt_range s (2 * i)
    have b2 := bt_range s (2 * i + 1)
    refine Ev.bind (l10Digit_ev _ b1.1 b1.2) (Ev.bind (l10Digit_ev _ b2.1 b2.2) ?_)
    have d1 := hexDig_le (bt s (2 * i))
    have d2 := hexDig_le (bt s (2 * i + 1))
    have hlen := hexRL_length s i l hl
    have hnext : hexRL s (i + 1) = if hexDig (bt s (2 * i)) < 0 ∨ hexDig (bt s (2 * i + 1)) < 0 then none else some (l ++ [16 * hexDig (bt s (2 * i)) + hexDig (bt s (2 * i + 1))]) := by
      rw [hexRL, hl]; rfl
    by_cases c1 : hexDig (bt s (2 * i)) < 0
    · simp only [if_pos c1]
      rw [if_pos (.inl c1)] at hnext
      rw [hexRL_none s _ hnext n (by omega)]
      exact Ev.now _
    · simp only [if_neg c1]
      by_cases c2 : hexDig (bt s (2 * i + 1)) < 0
      · simp only [if_pos c2]
        rw [if_pos (.inr c2)] at hnext
        rw [hexRL_none s _ hnext n (by omega)]
        exact Ev.now _
      · simp only [if_neg c2, if_pos (show l.length < 140737488355328 by omega)]
        rw [if_neg (by omega)] at hnext
        rw [wrap_id (i := hexDig (bt s (2 * i)) * 16) (by omega) (by omega), wrap_id (by omega) (by omega), wrap_id (by omega) (by omega)]
        have e1 : (hexDig (bt s (2 * i)) * 16 + hexDig (bt s (2 * i + 1))) % 256 = 16 * hexDig (bt s (2 * i)) + hexDig (bt s (2 * i + 1)) := by omega
        have e2 : (2 * i : Int) + 2 = 2 * ((i + 1 : Nat) : Int) := by omega
        rw [e1, e2]
        exact ih (i + 1) _ (by omega) (by omega) hnext
theorem specHexRead_ev (s : ByteArray) (hs : s.size ≤ 140737488351232) : Ev (fun k => spec_HexRead.f k s) (hexRd s) := by
  unfold spec_HexRead.f
  simp only [Option.bind_some]
  unfold hexRd
  by_cases h : s.size % 2 = 0
  · simp only [if_neg (show ¬ ((s.size : Int) % 2 = 1) by omega), if_pos h]
    exact specHexRead_l s (s.size / 2) (by omega) hs _ 0 [] rfl (by omega) rfl
  · simp only [if_pos (show ((s.size : Int) % 2 = 1) by omega), if_neg h]
    exact Ev.now _
theorem hexRd_len (s : ByteArray) : (hexRd s).1.length ≤ s.size := by
  unfold hexRd
  split
  · split
    · rename_i l h; have := hexRL_length s _ l h; simp only; omega
    · simp
  · simp

theorem hexDig_hxd (n : Int) (h0 : 0 ≤ n) (h1 : n < 16) : hexDig ((hxd n).toNat : Int) = n := by
  obtain ⟨m, rfl⟩ := Int.eq_ofNat_of_zero_le h0
  have key : ∀ m : Fin 16, hexDig ((hxd (m.val : Int)).toNat : Int) = (m.val : Int) := by decide
  exact key ⟨m, by omega⟩
theorem hxd_hexDig (c : Int) (h0 : 0 ≤ c) (h1 : c ≤ 255) (h : 0 ≤ hexDig c) : ((hxd (hexDig c)).toNat : Int) = c := by
  unfold hexDig at h ⊢
  split at h
  · rename_i hh
    rw [if_pos hh]
    have key : ∀ m : Fin 10, ((hxd (m.val : Int)).toNat : Int) = (m.val : Int) + 48 := by decide
    have := key ⟨(c - 48).toNat, by omega⟩
    simp only at this
    rw [show (((c - 48).toNat : Nat) : Int) = c - 48 by omega] at this
    omega
  · rename_i hn
    split at h
    · rename_i hh
      rw [if_neg hn, if_pos hh]
      have key : ∀ m : Fin 6, ((hxd ((m.val : Int) + 10)).toNat : Int) = (m.val : Int) + 97 := by decide
      have := key ⟨(c - 97).toNat, by omega⟩
      simp only at this
      rw [show (((c - 97).toNat : Nat) : Int) + 10 = c - 87 by omega] at this
      omega
    · omega
theorem bt_mk (l : List UInt8) (i : Nat) (h : i < l.length) : bt ⟨l.toArray⟩ (i : Int) = (l[i].toNat : Int) := by
  have h' : (i : Int).toNat < (⟨l.toArray⟩ : ByteArray).size := by show _ < l.toArray.size; simpa using h
  rw [← bt_at _ _ h']
  congr 2
theorem hexL_get (l : List Int) (k : Nat) (h : k < l.length) : (hexL l)[2 * k]? = some (hxd (l[k] / 16)) ∧ (hexL l)[2 * k + 1]? = some (hxd (l[k] % 16)) := by
  induction l generalizing k with
  | nil => simp at h
  | cons x l ih =>
    have e : hexL (x :: l) = hxd (x / 16) :: hxd (x % 16) :: hexL l := by simp [hexL]
    rw [e]
    cases k with
    | zero => simp
    | succ k =>
      have := ih k (by simpa using h)
      rw [show 2 * (k + 1) = 2 * k + 1 + 1 by omega]
      simpa using this
theorem hexRL_hexL (l : List Int) (hb : Bytes l) (k : Nat) (hk : k ≤ l.length) : hexRL ⟨(hexL l).toArray⟩ k = some (l.take k) := by
  induction k with
  | zero => rfl
  | succ k ih =>
    rw [hexRL, ih (by omega)]
    have g := hexL_get l k (by omega)
    have hx := hb l[k] (List.getElem_mem (by omega))
    have e1 : bt ⟨(hexL l).toArray⟩ (2 * (k : Int)) = ((hxd (l[k] / 16)).toNat : Int) := by
      have := bt_mk (hexL l) (2 * k) (by rw [hexL_length]; omega)
      rw [List.getElem?_eq_getElem (by rw [hexL_length]; omega)] at g
      rw [Option.some.inj g.1] at this
      exact this
    have e2 : bt ⟨(hexL l).toArray⟩ (2 * (k : Int) + 1) = ((hxd (l[k] % 16)).toNat : Int) := by
      have := bt_mk (hexL l) (2 * k + 1) (by rw [hexL_length]; omega)
      have g2 := g.2
      rw [List.getElem?_eq_getElem (by rw [hexL_length]; omega)] at g2
      rw [Option.some.inj g2] at this
      exact this
    simp only [Option.bind_some, e1, e2]
    rw [hexDig_hxd _ (by omega) (by omega), hexDig_hxd _ (by omega) (by omega), if_neg (by omega), List.take_succ_eq_append_getElem (by omega)]
    congr 3
    omega
theorem hexRL_text (s : ByteArray) (k : Nat) (l : List Int) (hk : 2 * k ≤ s.size) (h : hexRL s k = some l) : Bytes l ∧ hexL l = s.data.toList.take (2 * k) := by
  induction k generalizing l with
  | zero => cases h; exact ⟨(fun x hx => by cases hx), rfl⟩
  | succ k ih =>
    rw [hexRL] at h
    obtain ⟨l', h1, h2⟩ := Option.bind_eq_some_iff.mp h
    obtain ⟨i1, i2⟩ := ih l' (by omega) h1
    split at h2
    · cases h2
    · rename_i hd
      cases h2
      have d1 := hexDig_le (bt s (2 * k))
      have d2 := hexDig_le (bt s (2 * k + 1))
      have r1 := bt_range s (2 * k)
      have r2 := bt_range s (2 * k + 1)
      have s1 : 2 * k < s.data.toList.length := by rw [Array.length_toList]; show _ < s.size; omega
      have s2 : 2 * k + 1 < s.data.toList.length := by rw [Array.length_toList]; show _ < s.size; omega
      refine ⟨fun x hx => ?_, ?_⟩
      · rcases List.mem_append.mp hx with hx | hx
        · exact i1 x hx
        · rw [List.mem_singleton.mp hx]; omega
      · have x1 : (16 * hexDig (bt s (2 * k)) + hexDig (bt s (2 * k + 1))) / 16 = hexDig (bt s (2 * k)) := by omega
        have x2 : (16 * hexDig (bt s (2 * k)) + hexDig (bt s (2 * k + 1))) % 16 = hexDig (bt s (2 * k + 1)) := by omega
        have b1 : bt s (2 * k) = (s.data.toList[2 * k].toNat : Int) := by rw [← bt_at s (2 * k) (by omega)]; rfl
        have b2 : bt s (2 * k + 1) = (s.data.toList[2 * k + 1].toNat : Int) := by rw [← bt_at s (2 * k + 1) (by omega)]; rfl
        have c1 := hxd_hexDig _ r1.1 r1.2 (by omega)
        have c2 := hxd_hexDig _ r2.1 r2.2 (by omega)
        have u1 : hxd (hexDig (bt s (2 * k))) = s.data.toList[2 * k] := UInt8.toNat_inj.mp (by rw [b1] at c1 ⊢; omega)
        have u2 : hxd (hexDig (bt s (2 * k + 1))) = s.data.toList[2 * k + 1] := UInt8.toNat_inj.mp (by rw [b2] at c2 ⊢; omega)
        have e : hexL (l' ++ [16 * hexDig (bt s (2 * k)) + hexDig (bt s (2 * k + 1))]) = hexL l' ++ [hxd (hexDig (bt s (2 * k))), hxd (hexDig (bt s (2 * k + 1)))] := by
          unfold hexL
          rw [List.flatMap_append]
          simp only [List.flatMap_cons, List.flatMap_nil, List.append_nil, x1, x2]
        rw [e, i2, u1, u2, show 2 * (k + 1) = 2 * k + 1 + 1 by omega, List.take_succ_eq_append_getElem s2, List.take_succ_eq_append_getElem s1]
        simp
theorem FnHexText : laws_FnHexText.Pure := by
  intro l l' _ _ hw _ _ hw'
  have hb := wf_bytes hw
  have hb' := wf_bytes hw'
  have key : Ev (fun k => laws_FnHexText.j0 k l l' false) true := by
    refine Ev.step (fun _ => rfl) ?_
    simp only [laws_FnHexText.j0, Bool.false_eq_true, if_false]
    obtain ⟨a, ea, ha, hla⟩ := DrawHexText_ev l hb
    obtain ⟨s, es, hls⟩ := DrawHexRead_ev l' hb'
    obtain ⟨h1, h2⟩ := hexText_some' a ha (by omega)
    have hi : impl_HexRead.f s = some (hexRd s) := by unfold impl_HexRead.f; rw [if_pos (by omega)]
    have hlen := hexRd_len s
    have hsz : (⟨(hexL a).toArray⟩ : ByteArray).size = 2 * a.length := by
      show (hexL a).toArray.size = _
      rw [List.size_toArray, hexL_length]
    refine Ev.bind ea (Ev.bind es ?_)
    simp only [h1, h2, hi, Option.bind_some, if_true]
    refine Ev.bind (specHexRead_ev s (by omega)) (Ev.bind (liBytes_ev _ _ (by omega)) ?_)
    simp only [decide_true, if_true, bne_self_eq_false]
    refine Ev.step (fun _ => rfl) ?_
    simp only [laws_FnHexText.j1, Bool.false_eq_true, if_false]
    have last : Ev (fun k => laws_FnHexText.j2 k a ⟨(hexL a).toArray⟩ false) true := by
      refine Ev.step (fun _ => rfl) ?_
      simp only [laws_FnHexText.j2, Bool.false_eq_true, if_false]
      have hr : hexRd ⟨(hexL a).toArray⟩ = (a, true) := by
        unfold hexRd
        rw [if_pos (by omega), show (⟨(hexL a).toArray⟩ : ByteArray).size / 2 = a.length by omega, hexRL_hexL a ha _ (Nat.le_refl _), List.take_length]
      have hi2 : impl_HexRead.f ⟨(hexL a).toArray⟩ = some (a, true) := by unfold impl_HexRead.f; rw [if_pos (by omega), hr]
      simp only [hi2, Option.bind_some, if_true]
      refine Ev.bind (liBytes_ev _ _ (by omega)) ?_
      simp only [decide_true, if_true, hsz]
      rw [wrap_id (by omega) (by omega)]
      have : ((((2 * a.length : Nat)) : Int) == 2 * (a.length : Int)) = true := beq_iff_eq.mpr (by omega)
      rw [this]
      exact Ev.now _
    by_cases hok : (hexRd s).2 = true
    · simp only [if_pos hok]
      have hs2 : hexRL s (s.size / 2) = some (hexRd s).1 ∧ s.size % 2 = 0 := by
        unfold hexRd at hok ⊢
        split at hok
        · rename_i h
          rw [if_pos h]
          split at hok
          · rename_i l h'; rw [h']; exact ⟨rfl, h⟩
          · cases hok
        · cases hok
      obtain ⟨t1, t2⟩ := hexRL_text s (s.size / 2) _ (by omega) hs2.1
      obtain ⟨h3, -⟩ := hexText_some' _ t1 (by omega)
      have hn : s.data.toList.length = s.size := by rw [Array.length_toList]; rfl
      have e : (⟨(hexL (hexRd s).1).toArray⟩ : ByteArray).toList = s.toList := by
        rw [ByteArray.toList_mk, ByteArray.toList_eq, t2, List.take_of_length_le (by omega)]
      simp only [h3, Option.bind_some, if_pos e]
      exact last
    · simp only [if_neg hok]
      have e : (((hexRd s).1.length : Int) != 0) = false := by
        have : (hexRd s).1 = [] := by
          unfold hexRd at hok ⊢
          split
          · rename_i h
            rw [if_pos h] at hok
            split
            · rename_i h'; rw [h'] at hok; simp at hok
            · rfl
          · rfl
        rw [this]; rfl
      rw [e]
      exact last
  have key' : Ev (fun k => laws_FnHexText.j0 k l l' true) true := by
    refine Ev.step (fun _ => rfl) ?_
    simp only [laws_FnHexText.j0, if_true]
    exact Ev.now _
  refine Ev.rounds (g := fun k => laws_FnHexText.f k l l') ?_
  unfold laws_FnHexText.f
  by_cases hbig : (l.length : Int) > 1048576
  · simp only [if_pos hbig]; exact key'
  · simp only [if_neg hbig]
    by_cases hbig' : (l'.length : Int) > 1048576
    · simp only [decide_eq_true hbig']; exact key'
    · simp only [decide_eq_false hbig']; exact key

end Go.Proofs.Ytohmnedenhngpaa.Pure
