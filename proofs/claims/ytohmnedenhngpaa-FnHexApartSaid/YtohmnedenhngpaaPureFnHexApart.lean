/- Two lists of bytes have one text just if they are one. -/
import Derived.Test.YtohmnedenhngpaaPFnHexApartx2
set_option linter.unusedVariables false
set_option linter.unusedSimpArgs false
namespace Go.Proofs.Ytohmnedenhngpaa.Pure
open Go.RowKit Go.Proofs.Ytohmnedenhngpaa.PFnHexApart Go.Proofs.YtohmnedenhngpaaW.PrintWords Go.Proofs.YtohmnedenhngpaaW.PrintLast

theorem wrap_id {i : Int} (h0 : -9223372036854775808 ≤ i) (h : i ≤ 9223372036854775807) : wrap64 i = i := by
  unfold wrap64; omega
theorem rd_lt (l : List Int) (i : Nat) (h : i < l.length) : rd l (i : Int) = l[i] := by
  simp [rd, List.getD_eq_getElem?_getD, List.getElem?_eq_getElem h]

theorem liBytes_l (a b : List Int) (he : a.length = b.length) (hl : a.length ≤ 140737488355328) (d : Nat) : ∀ i : Nat, a.length - i = d → i ≤ a.length → Ev (fun k => laws_liBytes.l0 k a b (i : Int)) (decide (a.drop i = b.drop i)) := by
  induction d with
  | zero =>
    intro i hd hi
    refine Ev.step (fun _ => rfl) ?_
    simp only [laws_liBytes.l0]
    simp only [if_neg (show ¬ ((i : Int) < (a.length : Int)) by omega)]
    rw [List.drop_of_length_le (by omega), List.drop_of_length_le (by omega)]
    exact Ev.now _
  | succ d ih =>
    intro i hd hi
    refine Ev.step (fun _ => rfl) ?_
    simp only [laws_liBytes.l0]
    simp only [if_pos (show (i : Int) < (a.length : Int) by omega), if_pos (show (0 : Int) ≤ (i : Int) by omega), if_pos (show (i : Int) < (b.length : Int) by omega)]
    rw [rd_lt a i (by omega), rd_lt b i (by omega), List.drop_eq_getElem_cons (show i < a.length by omega), List.drop_eq_getElem_cons (show i < b.length by omega)]
    by_cases h : a[i] = b[i]
    · simp only [if_pos h]
      rw [wrap_id (by omega) (by omega)]
      have := ih (i + 1) (by omega) (by omega)
      have e : decide (a[i] :: List.drop (i + 1) a = b[i] :: List.drop (i + 1) b) = decide (List.drop (i + 1) a = List.drop (i + 1) b) := by simp only [h, List.cons.injEq, true_and]
      rw [e]
      exact this
    · simp only [if_neg h]
      have e : decide (a[i] :: List.drop (i + 1) a = b[i] :: List.drop (i + 1) b) = false := decide_eq_false (fun hh => h (List.cons.inj hh).1)
      rw [e]
      exact Ev.now _
theorem liBytes_ev (a b : List Int) (hl : a.length ≤ 140737488355328) : Ev (fun k => laws_liBytes.f k a b) (decide (a = b)) := by
  unfold laws_liBytes.f
  by_cases he : a.length = b.length
  · simp only [if_pos (show (a.length : Int) = (b.length : Int) by omega)]
    exact liBytes_l a b he hl _ 0 rfl (by omega)
  · simp only [if_neg (show ¬ (a.length : Int) = (b.length : Int) by omega)]
    have e : decide (a = b) = false := decide_eq_false (fun h => he (by rw [h]))
    rw [e]
    exact Ev.now _

theorem hexText_some' (l : List Int) (h : ∀ x ∈ l, 0 ≤ x ∧ x ≤ 255) (hl : l.length ≤ 1048576) : impl_HexText.f l = some ⟨(hexL l).toArray⟩ ∧ spec_HexText.f l = some ⟨(hexL l).toArray⟩ := by
  unfold impl_HexText.f spec_HexText.f
  exact ⟨if_pos ⟨h, by omega⟩, if_pos ⟨h, by omega⟩⟩
theorem wf_bytes {l : List Int} (h : ∀ x ∈ l, (Lit.int .u8 x).wf = true) : ∀ x ∈ l, 0 ≤ x ∧ x ≤ 255 := by
  intro x hx
  have := h x hx
  simp [Lit.wf, IntKind.min, IntKind.max, IntKind.signed, IntKind.bits] at this
  omega

/- the reader of a code: what it picks -/
def Bytes (b : List Int) : Prop := ∀ x ∈ b, 0 ≤ x ∧ x ≤ 255
theorem Bytes.rdb {b : List Int} (h : Bytes b) (i : Int) : 0 ≤ rd b i ∧ rd b i ≤ 255 := by
  unfold rd
  by_cases hi : i.toNat < b.length
  · rw [List.getD_eq_getElem?_getD, List.getElem?_eq_getElem hi]
    exact h _ (List.getElem_mem hi)
  · rw [List.getD_eq_getElem?_getD, List.getElem?_eq_none (by omega)]
    simp
theorem xor_nat (a b : Nat) (ha : a < 2 ^ 62) (hb : b < 2 ^ 62) : Go.bits .xor .i64 a b = ((a ^^^ b : Nat) : Int) := by
  have ha' : a % 2 ^ 64 = a := Nat.mod_eq_of_lt (by omega)
  have hb' : b % 2 ^ 64 = b := Nat.mod_eq_of_lt (by omega)
  have hx : a ^^^ b < 2 ^ 62 := Nat.xor_lt_two_pow ha hb
  have hv : (BitVec.ofNat 64 a ^^^ BitVec.ofNat 64 b).toNat = a ^^^ b := by rw [BitVec.toNat_xor, BitVec.toNat_ofNat, BitVec.toNat_ofNat, ha', hb']
  simp only [Go.bits, BitVec.ofInt_natCast, IntKind.bits]
  show IntKind.i64.wrap (((BitVec.ofNat 64 a ^^^ BitVec.ofNat 64 b).toNat : Nat) : Int) = _
  rw [hv, IntKind.wrap_i64]
  omega
theorem xor_nn {a b : Int} (ha : 0 ≤ a) (ha' : a < 2 ^ 62) (hb : 0 ≤ b) (hb' : b < 2 ^ 62) : 0 ≤ Go.bits .xor .i64 a b := by
  obtain ⟨m, rfl⟩ := Int.eq_ofNat_of_zero_le ha
  obtain ⟨n, rfl⟩ := Int.eq_ofNat_of_zero_le hb
  show 0 ≤ Go.bits .xor .i64 (m : Int) (n : Int)
  rw [xor_nat m n (by omega) (by omega)]
  exact Int.natCast_nonneg _
theorem pick_ev (b : List Int) (hb : Bytes b) (p n : Int) (h0 : 0 ≤ p) (hp : p ≤ 1099511627776) :
    ∃ x, Ev (fun k => spec_l20Rd_pick.f k b p n) (x, p + 1) ∧ (1 ≤ n → 0 ≤ x ∧ x < n) ∧ (n < 1 → x = 0) := by
  unfold spec_l20Rd_pick.f
  rw [wrap_id (i := p + 1) (by omega) (by omega)]
  by_cases hn : n < 1
  · refine ⟨0, ?_, fun h => by omega, fun _ => rfl⟩
    simp only [if_pos hn]
    refine Ev.step (fun _ => rfl) ?_
    simp only [spec_l20Rd_pick.j0, if_true]
    exact Ev.now _
  · simp only [if_neg hn]
    by_cases hl : b.length = 0
    · refine ⟨0, ?_, fun h => by omega, fun h => by omega⟩
      rw [show (((b.length : Int) == 0) = true) from by simp [hl]]
      refine Ev.step (fun _ => rfl) ?_
      simp only [spec_l20Rd_pick.j0, if_true]
      exact Ev.now _
    · rw [show (((b.length : Int) == 0) = false) from beq_eq_false_iff_ne.mpr (by omega)]
      have e1 : wrap64 (p + 1 - 1) = p := by rw [wrap_id (by omega) (by omega)]; omega
      by_cases hlt : p < (b.length : Int)
      · have hr := hb.rdb p
        refine ⟨Int.tmod (rd b p) n, ?_, fun h => ⟨Int.tmod_nonneg _ hr.1, Int.tmod_lt_of_pos _ (by omega)⟩, fun h => by omega⟩
        refine Ev.step (fun _ => rfl) ?_
        simp only [spec_l20Rd_pick.j0, Bool.false_eq_true, if_false, e1, if_pos hlt, if_pos h0, if_neg (show ¬ n = 0 by omega)]
        rw [wrap_id (i := rd b p) (by omega) (by omega)]
        exact Ev.now _
      · have hL : (0 : Int) < b.length := by omega
        have a1 : wrap64 (p * 7) = p * 7 := wrap_id (by omega) (by omega)
        have a2 : wrap64 (p * 7 + 3) = p * 7 + 3 := wrap_id (by omega) (by omega)
        have i1 : 0 ≤ Int.tmod p b.length := Int.tmod_nonneg _ h0
        have i2 : Int.tmod p b.length < b.length := Int.tmod_lt_of_pos _ hL
        have i3 : 0 ≤ Int.tmod (p * 7 + 3) b.length := Int.tmod_nonneg _ (by omega)
        have i4 : Int.tmod (p * 7 + 3) b.length < b.length := Int.tmod_lt_of_pos _ hL
        have r1 := hb.rdb (Int.tmod p b.length)
        have r2 := hb.rdb (Int.tmod (p * 7 + 3) b.length)
        have q1 : 0 ≤ Int.tdiv p b.length := Int.tdiv_nonneg h0 (by omega)
        have q2 : Int.tdiv p b.length ≤ p := by
          rw [Int.tdiv_eq_ediv_of_nonneg h0]
          exact Int.ediv_le_self _ h0
        obtain ⟨u, hu⟩ : ∃ u, rd b (Int.tmod p b.length) = u := ⟨_, rfl⟩
        obtain ⟨v, hv⟩ : ∃ v, rd b (Int.tmod (p * 7 + 3) b.length) = v := ⟨_, rfl⟩
        obtain ⟨z, hz⟩ : ∃ z, Int.tdiv p b.length = z := ⟨_, rfl⟩
        rw [hu] at r1; rw [hv] at r2; rw [hz] at q1 q2
        have e : ∃ x, Ev (fun k => spec_l20Rd_pick.j0 k n false b (p + 1)) (Int.tmod x n, p + 1) ∧ 0 ≤ x := by
          refine Exists.intro ?w (And.intro ?a ?b)
          case a =>
            refine Ev.step (fun _ => rfl) ?_
            simp only [spec_l20Rd_pick.j0, Bool.false_eq_true, if_false, e1, if_neg hlt, if_neg (show ¬ ((b.length : Int) = 0) by omega), if_pos i1, if_pos i2, a1, a2, if_pos i3, if_pos i4, if_neg (show ¬ n = 0 by omega), hu, hv, hz]
            exact Ev.now _
          · have w1 : wrap64 u = u := wrap_id (by omega) (by omega)
            have w2 : wrap64 v = v := wrap_id (by omega) (by omega)
            have w3 : wrap64 z = z := wrap_id (by omega) (by omega)
            have w4 : wrap64 (u * 131) = u * 131 := wrap_id (by omega) (by omega)
            have w5 : wrap64 (v * 1117) = v * 1117 := wrap_id (by omega) (by omega)
            have w6 : wrap64 (p * 29) = p * 29 := wrap_id (by omega) (by omega)
            have w7 : wrap64 (z * 53) = z * 53 := wrap_id (by omega) (by omega)
            have w8 : wrap64 (u * 131 + v * 1117) = u * 131 + v * 1117 := wrap_id (by omega) (by omega)
            have w9 : wrap64 (u * 131 + v * 1117 + p * 29) = u * 131 + v * 1117 + p * 29 := wrap_id (by omega) (by omega)
            have w10 : wrap64 (u * 131 + v * 1117 + p * 29 + z * 53) = u * 131 + v * 1117 + p * 29 + z * 53 := wrap_id (by omega) (by omega)
            rw [w1, w2, w3, w4, w5, w6, w7, w8, w9, w10]
            have hn : 0 ≤ u * 131 + v * 1117 + p * 29 + z * 53 := by omega
            rw [Int.tdiv_eq_ediv_of_nonneg hn, wrap_id (by omega) (by omega)]
            exact xor_nn hn (by omega) (by omega) (by omega)
        obtain ⟨x, he, hx⟩ := e
        exact ⟨_, he, fun h => ⟨Int.tmod_nonneg _ hx, Int.tmod_lt_of_pos _ (by omega)⟩, fun h => by omega⟩
theorem open_f (c : List Int) : ∃ b, spec_l20Open.f c = some (b, 0) ∧ (Bytes c → Bytes b) ∧ b.length ≤ 2000 := by
  unfold spec_l20Open.f
  by_cases h : (c.length : Int) > 2000
  · refine ⟨c.take 2000, by rw [if_pos h, if_pos (by omega)], fun hc x hx => hc x (List.mem_of_mem_take hx), by simp; omega⟩
  · exact ⟨c, by rw [if_neg h], fun hc => hc, by omega⟩

theorem l20Bytes_l (b : List Int) (hb : Bytes b) (d : Nat) : ∀ (p : Int) (l : List Int), 0 ≤ p → p + 3 * d ≤ 1099511627776 → Bytes l → l.length + d ≤ 1000000 →
    ∃ r p', Ev (fun k => spec_l20Bytes.l0 k l (d : Int) b p) (r, p') ∧ Bytes r ∧ r.length = l.length + d ∧ p ≤ p' ∧ p' ≤ p + 3 * d := by
  induction d with
  | zero =>
    intro p l h0 hp hl hn
    refine ⟨l, p, Ev.step (fun _ => rfl) ?_, hl, by omega, by omega, by omega⟩
    simp only [spec_l20Bytes.l0]
    simp only [if_neg (show ¬ (((0 : Nat) : Int) > 0) by omega)]
    exact Ev.now _
  | succ d ih =>
    intro p l h0 hp hl hn
    obtain ⟨x1, e1, b1, -⟩ := pick_ev b hb p 256 h0 (by omega)
    obtain ⟨x2, e2, b2, -⟩ := pick_ev b hb (p + 1) 4 (by omega) (by omega)
    obtain ⟨x3, e3, b3, -⟩ := pick_ev b hb (p + 1 + 1) 3 (by omega) (by omega)
    have b1 := b1 (by omega)
    have b2 := b2 (by omega)
    have b3 := b3 (by omega)
    have hmod : ∃ y, rd [x1, x2, 255] x3 % 256 = y ∧ 0 ≤ y ∧ y ≤ 255 := ⟨_, rfl, by omega, by omega⟩
    obtain ⟨y, hy, hy0, hy1⟩ := hmod
    obtain ⟨r, p', er, hr, hlen, hp1, hp2⟩ := ih (p + 1 + 1 + 1) (l ++ [y]) (by omega) (by omega) (by
      intro z hz
      rcases List.mem_append.mp hz with hz | hz
      · exact hl z hz
      · rw [List.mem_singleton.mp hz]; exact ⟨hy0, hy1⟩) (by simp; omega)
    refine ⟨r, p', Ev.step (fun _ => rfl) ?_, hr, by simp at hlen; omega, by omega, by omega⟩
    simp only [spec_l20Bytes.l0]
    simp only [if_pos (show (((d + 1 : Nat) : Int) > 0) by omega)]
    refine Ev.bind e1 (Ev.bind e2 ?_)
    simp only [Option.bind_some]
    refine Ev.bind e3 ?_
    simp only [if_pos b3.1, if_pos (show x3 < (([x1, x2, 255] : List Int).length : Int) from b3.2), if_pos (show l.length < 140737488355328 by omega), hy]
    rw [wrap_id (by omega) (by omega)]
    have e : ((d + 1 : Nat) : Int) - 1 = (d : Int) := by omega
    rw [e]
    exact er
theorem l20Bytes_ev (b : List Int) (hb : Bytes b) (p n : Int) (h0 : 0 ≤ p) (hp : p ≤ 1000000000) (hn : 0 ≤ n) (hn' : n ≤ 100000) :
    ∃ r p', Ev (fun k => spec_l20Bytes.f k b p n) (r, p') ∧ Bytes r ∧ (r.length : Int) ≤ n ∧ p ≤ p' ∧ p' ≤ p + 1 + 3 * n := by
  unfold spec_l20Bytes.f
  rw [wrap_id (i := n + 1) (by omega) (by omega)]
  obtain ⟨x, e, bx, -⟩ := pick_ev b hb p (n + 1) h0 (by omega)
  have bx := bx (by omega)
  obtain ⟨m, rfl⟩ := Int.eq_ofNat_of_zero_le bx.1
  obtain ⟨r, p', er, hr, hlen, hp1, hp2⟩ := l20Bytes_l b hb m (p + 1) [] (by omega) (by omega) (by intro x hx; cases hx) (by simp; omega)
  exact ⟨r, p', Ev.bind e er, hr, by simp at hlen; omega, by omega, by omega⟩

theorem DrawHexText_ev (c : List Int) (hc : Bytes c) : ∃ r, Ev (fun k => spec_DrawHexText.f k c) r ∧ Bytes r ∧ r.length ≤ 12 := by
  obtain ⟨b, hb, hbb, -⟩ := open_f c
  obtain ⟨r, p', e, hr, hl, -, -⟩ := l20Bytes_ev b (hbb hc) 0 12 (by omega) (by omega) (by omega) (by omega)
  refine ⟨r, ?_, hr, by omega⟩
  unfold spec_DrawHexText.f
  simp only [hb, Option.bind_some]
  exact Ev.bind e (Ev.now _)

theorem hxd_inj : ∀ a b : Int, 0 ≤ a → a < 16 → 0 ≤ b → b < 16 → hxd a = hxd b → a = b := by
  intro a b ha ha' hb hb' h
  obtain ⟨m, rfl⟩ := Int.eq_ofNat_of_zero_le ha
  obtain ⟨n, rfl⟩ := Int.eq_ofNat_of_zero_le hb
  have key : ∀ m n : Fin 16, hxd (m.val : Int) = hxd (n.val : Int) → m = n := by decide
  have := key ⟨m, by omega⟩ ⟨n, by omega⟩ h
  simp at this
  omega
theorem hexL_inj : ∀ a b : List Int, Bytes a → Bytes b → hexL a = hexL b → a = b := by
  intro a
  induction a with
  | nil =>
    intro b _ _ h
    have := congrArg List.length h
    rw [hexL_length, hexL_length] at this
    exact (List.eq_nil_of_length_eq_zero (by simp at this; omega)).symm
  | cons x a ih =>
    intro b ha hb h
    cases b with
    | nil =>
      have := congrArg List.length h
      rw [hexL_length, hexL_length] at this
      simp at this
    | cons y b =>
      simp only [hexL, List.flatMap_cons, List.cons_append, List.nil_append, List.cons.injEq] at h
      have hx := ha x List.mem_cons_self
      have hy := hb y List.mem_cons_self
      have h1 := hxd_inj _ _ (by omega) (by omega) (by omega) (by omega) h.1
      have h2 := hxd_inj _ _ (by omega) (by omega) (by omega) (by omega) h.2.1
      have hxy : x = y := by omega
      rw [hxy, ih b (fun z hz => ha z (List.mem_cons_of_mem _ hz)) (fun z hz => hb z (List.mem_cons_of_mem _ hz)) h.2.2]
theorem toList_mk (l : List UInt8) : (⟨l.toArray⟩ : ByteArray).toList = l := by
  exact ByteArray.toList_mk l
theorem FnHexApart : laws_FnHexApart.Pure := by
  intro l l' _ _ hw _ _ hw'
  have hb := wf_bytes hw
  have hb' := wf_bytes hw'
  have key : Ev (fun k => laws_FnHexApart.j0 k l l' false) true := by
    refine Ev.step (fun _ => rfl) ?_
    simp only [laws_FnHexApart.j0, Bool.false_eq_true, if_false]
    obtain ⟨a, ea, ha, hla⟩ := DrawHexText_ev l hb
    obtain ⟨b, eb, hb, hlb⟩ := DrawHexText_ev l' hb'
    obtain ⟨h1, h2⟩ := hexText_some' a ha (by omega)
    obtain ⟨h3, -⟩ := hexText_some' b hb (by omega)
    refine Ev.bind ea (Ev.bind eb ?_)
    simp only [h1, h2, h3, Option.bind_some, if_true]
    refine Ev.bind (liBytes_ev a b (by omega)) ?_
    have e : (((⟨(hexL a).toArray⟩ : ByteArray).toList == (⟨(hexL b).toArray⟩ : ByteArray).toList) == decide (a = b)) = true := by
      rw [toList_mk, toList_mk]
      by_cases h : a = b
      · subst h; simp
      · have : hexL a ≠ hexL b := fun hh => h (hexL_inj a b ha hb hh)
        simp [h, this]
    simp only [e, if_true]
    have e2 : laws_liOk.f = some true := by decide
    simp only [e2, Option.bind_some]
    exact Ev.now _
  have key' : Ev (fun k => laws_FnHexApart.j0 k l l' true) true := by
    refine Ev.step (fun _ => rfl) ?_
    simp only [laws_FnHexApart.j0, if_true]
    exact Ev.now _
  refine Ev.rounds (g := fun k => laws_FnHexApart.f k l l') ?_
  unfold laws_FnHexApart.f
  by_cases hbig : (l.length : Int) > 1048576
  · simp only [if_pos hbig]; exact key'
  · simp only [if_neg hbig]
    by_cases hbig' : (l'.length : Int) > 1048576
    · simp only [decide_eq_true hbig']; exact key'
    · simp only [decide_eq_false hbig']; exact key

end Go.Proofs.Ytohmnedenhngpaa.Pure
