/- Sums: one turned byte is told; what is read of a frame's bytes is the frame. Plain lists and numbers. · Pieces: each is ok; one behind the other they are the message. Plain lists and numbers. · Two ends that are ok stay ok, whatever happens; the program and its reference do the same. Plain lists and numbers. · Two ends that use numbers: what is on its way, what has come, what has been let go of. Plain lists and numbers. · What values say: lists of things in memory that stays. -/
import Derived.Test.YtpjaidjnamngaaaGreatR4
namespace Go.Proofs.YtpjaidjnamngaaaGreat
set_option linter.unusedVariables false
set_option linter.unusedSimpArgs false
theorem crcHalf_lt {x : Nat} (h : x < 65536) : crcHalf x < 65536 := by
  unfold crcHalf
  split
  · exact Nat.xor_lt_two_pow (n := 16) (by omega) (by omega)
  · omega
theorem crcN_lt (k : Nat) {x : Nat} (h : x < 65536) : crcN k x < 65536 := by
  induction k generalizing x with
  | zero => exact h
  | succ k ih => exact ih (crcHalf_lt h)
theorem crcStep_lt {s b : Nat} (hs : s < 65536) (hb : b < 256) : crcStep s b < 65536 :=
  crcN_lt 8 (Nat.xor_lt_two_pow (n := 16) (by omega) (by omega))
def Bys (l : List Int) : Prop := ∀ x ∈ l, 0 ≤ x ∧ x ≤ 255
def crcFrom (s : Nat) (l : List Int) : Nat := l.foldl (fun s b => crcStep s b.toNat) s
theorem crcFrom_lt {s : Nat} {l : List Int} (hs : s < 65536) (hl : Bys l) : crcFrom s l < 65536 := by
  induction l generalizing s with
  | nil => exact hs
  | cons x l ih =>
    have hx := hl x List.mem_cons_self
    exact ih (crcStep_lt hs (by omega)) (fun y hy => hl y (List.mem_cons_of_mem _ hy))
theorem crcOf_lt {l : List Int} (hl : Bys l) : crcOf l < 65536 := crcFrom_lt (by omega) hl
theorem Bys.append {l m : List Int} (h : Bys l) (k : Bys m) : Bys (l ++ m) := fun x hx => (List.mem_append.mp hx).elim (h x) (k x)
theorem Bys.left {l m : List Int} (h : Bys (l ++ m)) : Bys l := fun x hx => h x (List.mem_append_left _ hx)
theorem Bys.right {l m : List Int} (h : Bys (l ++ m)) : Bys m := fun x hx => h x (List.mem_append_right _ hx)
theorem Bys.take {l : List Int} (h : Bys l) (n : Nat) : Bys (l.take n) := fun x hx => h x (List.mem_of_mem_take hx)
theorem Bys.drop {l : List Int} (h : Bys l) (n : Nat) : Bys (l.drop n) := fun x hx => h x (List.mem_of_mem_drop hx)
theorem Bys.crcPut {l : List Int} (h : Bys l) : Bys (crcPut l) := by
  have hc := crcOf_lt h
  unfold Go.Proofs.YtpjaidjnamngaaaGreat.crcPut
  refine h.append ?_
  intro x hx
  simp only [List.mem_cons, List.not_mem_nil, or_false] at hx
  rcases hx with rfl | rfl <;> omega
theorem crcPut_length (l : List Int) : (crcPut l).length = l.length + 2 := by simp [crcPut]
theorem crcPut_take (l : List Int) : (crcPut l).take ((crcPut l).length - 2) = l := by
  rw [crcPut_length]; simp [crcPut]
theorem crcCut_put (l : List Int) : crcCut (crcPut l) = some l := by
  unfold crcCut
  rw [crcPut_take, if_pos ⟨by rw [crcPut_length]; omega, rfl⟩]
theorem crcCut_some {l b : List Int} (h : crcCut l = some b) : l = crcPut b := by
  unfold crcCut at h
  split at h
  · rename_i hc; injection h with h; rw [← h]; exact hc.2.symm
  · cases h
/-! frames -/
theorem inB_iff {n lo hi : Int} : inB n lo hi = true ↔ lo ≤ n ∧ n ≤ hi := by simp [inB]
theorem isNum_iff {n : Int} : isNum n = true ↔ 0 ≤ n ∧ n ≤ 7 := inB_iff
theorem pieceOk_iff {seg len : Int} {n : Nat} : pieceOk seg len n = true ↔ (seg = 0 ∧ n ≤ 8 ∧ len = n) ∨ (seg = 1 ∧ 1 ≤ n ∧ n ≤ 8 ∧ (n : Int) + 1 ≤ len ∧ len ≤ 24) ∨ ((seg = 2 ∨ seg = 3) ∧ 1 ≤ n ∧ n ≤ 8 ∧ len = 0) := by
  unfold pieceOk
  by_cases h0 : seg = 0
  · rw [if_pos h0]; simp only [Bool.and_eq_true, decide_eq_true_eq]; omega
  · rw [if_neg h0]
    by_cases h1 : seg = 1
    · rw [if_pos h1]; simp only [Bool.and_eq_true, inB_iff]; omega
    · rw [if_neg h1]
      by_cases h2 : seg = 2 ∨ seg = 3
      · rw [if_pos h2]; simp only [Bool.and_eq_true, inB_iff, decide_eq_true_eq]; omega
      · rw [if_neg h2]; simp only [Bool.false_eq_true, false_iff]; omega
theorem pieceOk_bound {seg len : Int} {n : Nat} (h : pieceOk seg len n = true) : 0 ≤ seg ∧ seg ≤ 3 ∧ 0 ≤ len ∧ len ≤ 24 ∧ n ≤ 8 := by
  have := pieceOk_iff.mp h; omega
theorem frmOk_bound {f : Frm} (h : frmOk f = true) : (1 ≤ f.kind ∧ f.kind ≤ 4) ∧ (0 ≤ f.seq ∧ f.seq ≤ 7) ∧ (0 ≤ f.ack ∧ f.ack ≤ 7) ∧ (0 ≤ f.say ∧ f.say ≤ 2) ∧ (0 ≤ f.seg ∧ f.seg ≤ 3) ∧ (0 ≤ f.len ∧ f.len ≤ 255) ∧ f.data.length ≤ 8 := by
  unfold frmOk at h
  split at h
  · rename_i hk
    simp only [Bool.and_eq_true, isNum_iff, decide_eq_true_eq] at h
    have := pieceOk_bound h.2
    omega
  · split at h
    · rename_i hk
      simp only [Bool.and_eq_true, isNum_iff, inB_iff, decide_eq_true_eq] at h
      obtain ⟨⟨⟨⟨⟨⟨h1, h2⟩, h3⟩, h4⟩, h5⟩, h6⟩, h7⟩ := h
      simp only [h7, List.length_nil]; omega
    · split at h
      · rename_i hk
        simp only [Bool.and_eq_true, decide_eq_true_eq] at h
        have := pieceOk_bound h.2
        omega
      · split at h
        · rename_i hk
          simp only [Bool.and_eq_true, inB_iff, decide_eq_true_eq] at h
          obtain ⟨⟨⟨⟨⟨⟨⟨h1, h2⟩, h3⟩, h4⟩, h5⟩, h6⟩, h7⟩, h8⟩ := h
          simp only [h8, List.length_nil]; omega
        · cases h
theorem bit_01 (b : Bool) : 0 ≤ bit b ∧ bit b ≤ 1 := by cases b <;> simp [bit]
theorem frmOf_head (f : Frm) (h : frmOk f = true) : frmOf (frmHead f ++ f.data) = f := by
  have hb := frmOk_bound h
  obtain ⟨kind, seq, ack, poll, fin, say, seg, len, data⟩ := f
  simp only [frmHead, frmOf, List.cons_append, List.nil_append, List.getD_cons_zero, List.getD_cons_succ, List.drop_succ_cons, List.drop_zero, Frm.mk.injEq, true_and, and_true] at hb ⊢
  refine ⟨by omega, by omega, ?_, ?_, ?_, ?_⟩
  · cases poll <;> cases fin <;> simp [bit] <;> omega
  · cases poll <;> cases fin <;> simp [bit] <;> omega
  · cases poll <;> cases fin <;> simp [bit] <;> omega
  · cases poll <;> cases fin <;> simp [bit] <;> omega
theorem frmHead_bys {f : Frm} (h : frmOk f = true) : Bys (frmHead f) := by
  have hb := frmOk_bound h
  have h1 := bit_01 f.poll
  have h2 := bit_01 f.fin
  intro x hx
  simp only [frmHead, List.mem_cons, List.not_mem_nil, or_false] at hx
  rcases hx with rfl | rfl | rfl | rfl | rfl <;> omega
theorem frmBytes_ok {f : Frm} (h : frmOk f = true) : frmBytes f = crcPut (frmHead f ++ f.data) := by unfold frmBytes; rw [if_pos h]
theorem frmBytes_length {f : Frm} (h : frmOk f = true) : (frmBytes f).length = f.data.length + 7 := by
  rw [frmBytes_ok h, crcPut_length]; simp [frmHead]
theorem frmBytes_le (f : Frm) : (frmBytes f).length ≤ 15 := by
  by_cases h : frmOk f = true
  · have := frmOk_bound h; rw [frmBytes_length h]; omega
  · unfold frmBytes; rw [if_neg h]; simp
theorem frmBytes_bys {f : Frm} (h : frmOk f = true) (hd : Bys f.data) : Bys (frmBytes f) := by
  rw [frmBytes_ok h]; exact ((frmHead_bys h).append hd).crcPut
theorem frmRead_bytes {f : Frm} (h : frmOk f = true) : frmRead (frmBytes f) = some f := by
  have e : crcCut (frmBytes f) = some (frmHead f ++ f.data) := by rw [frmBytes_ok h, crcCut_put]
  unfold frmRead
  rw [e]
  simp only [frmOf_head f h]
  rw [if_pos ⟨by simp [frmHead], trivial⟩]
theorem frmRead_some {l : List Int} {f : Frm} (h : frmRead l = some f) : frmBytes f = l ∧ (l ≠ [] → frmOk f = true) := by
  unfold frmRead at h
  split at h
  · rename_i bb _
    split at h
    · rename_i hc
      injection h with h
      subst h
      refine ⟨hc.2, fun hn => ?_⟩
      by_cases ho : frmOk (frmOf bb) = true
      · exact ho
      · exfalso
        have := hc.2
        unfold frmBytes at this
        rw [if_neg ho] at this
        exact hn this.symm
    · cases h
  · cases h
theorem frmRead_ok {l : List Int} {f : Frm} (h : frmRead l = some f) : frmOk f = true ∧ frmBytes f = l := by
  obtain ⟨h1, h2⟩ := frmRead_some h
  refine ⟨h2 ?_, h1⟩
  rintro rfl
  simp [frmRead, crcCut] at h
theorem segGo_mem {sdu : List Int} {most : Nat} (hm : 1 ≤ most) {k at_ : Nat} {p : Part} (hp : p ∈ segGo sdu most k at_) : ∃ a, at_ ≤ a ∧ a < sdu.length ∧ (a = at_ ∨ at_ + most ≤ a) ∧ p = segAt sdu most a := by
  induction k generalizing at_ with
  | zero => simp [segGo] at hp
  | succ k ih =>
    rw [segGo] at hp
    split at hp
    · rename_i hlt
      rcases List.mem_cons.mp hp with rfl | hp
      · exact ⟨at_, Nat.le_refl _, hlt, .inl rfl, rfl⟩
      · obtain ⟨a, h1, h2, h3, h4⟩ := ih hp
        exact ⟨a, by omega, h2, .inr (by omega), h4⟩
    · simp at hp
theorem segAt_ok {sdu : List Int} {most a : Nat} (h24 : sdu.length ≤ 24) (h1 : 1 ≤ most) (h8 : most ≤ 8) (hl : most < sdu.length) (ha : a < sdu.length) (h0 : a = 0 ∨ most ≤ a) :
    partOk (segAt sdu most a) = true ∧ (segAt sdu most a).data.length ≤ most ∧ (segAt sdu most a).len ≤ sdu.length := by
  have hd : (segAt sdu most a).data.length = min most (sdu.length - a) := by simp [segAt]
  unfold partOk
  rw [pieceOk_iff, hd]
  by_cases h : a = 0
  · subst h
    simp only [segAt, if_true]
    refine ⟨?_, ?_, ?_⟩ <;> (try simp only [true_and, and_true, or_true, true_or, false_or, or_false]) <;> omega
  · by_cases he : a + most ≥ sdu.length
    · simp only [segAt, if_neg h, if_pos he]
      refine ⟨?_, ?_, ?_⟩ <;> (try simp only [true_and, and_true, or_true, true_or, false_or, or_false]) <;> omega
    · simp only [segAt, if_neg h, if_neg he]
      refine ⟨?_, ?_, ?_⟩ <;> (try simp only [true_and, and_true, or_true, true_or, false_or, or_false]) <;> omega
theorem segCut_mem {sdu : List Int} {most : Int} {p : Part} (hp : p ∈ segCut sdu most) : partOk p = true ∧ (p.data.length : Int) ≤ most ∧ p.len ≤ sdu.length ∧ (Bys sdu → Bys p.data) := by
  unfold segCut at hp
  split at hp
  · simp at hp
  · rename_i hc
    split at hp
    · rename_i hle
      rw [List.mem_singleton] at hp
      subst hp
      refine ⟨?_, hle, Int.le_refl _, fun h => h⟩
      unfold partOk; rw [pieceOk_iff]; left; refine ⟨rfl, ?_, rfl⟩; simp only; omega
    · rename_i hle
      obtain ⟨a, h1, h2, h3, rfl⟩ := segGo_mem (by omega) hp
      obtain ⟨k1, k2, k3⟩ := segAt_ok (sdu := sdu) (most := most.toNat) (a := a) (by omega) (by omega) (by omega) (by omega) h2 (by omega)
      refine ⟨k1, by omega, k3, fun h => ?_⟩
      exact (h.drop a).take most.toNat
theorem segGo_length (sdu : List Int) (most : Nat) (k at_ : Nat) : (segGo sdu most k at_).length ≤ k := by
  induction k generalizing at_ with
  | zero => simp [segGo]
  | succ k ih =>
    rw [segGo]
    split
    · have := ih (at_ + most); simp only [List.length_cons]; omega
    · simp
theorem segCut_length (sdu : List Int) (most : Int) : (segCut sdu most).length ≤ 24 := by
  unfold segCut
  split
  · simp
  · split
    · simp
    · have := segGo_length sdu most.toNat sdu.length 0; omega
def joinGo (s : Join × List (List Int)) (p : Part) : Option (Join × List (List Int)) :=
  if (segPut s.1 p).2.2 = 3 then none else some ((segPut s.1 p).1, if (segPut s.1 p).2.2 = 2 then s.2 ++ [(segPut s.1 p).2.1] else s.2)
def joins (l : List Part) : Option (Join × List (List Int)) := l.foldlM joinGo (join0, [])
theorem take_app (l : List Int) (a m : Nat) : l.take a ++ (l.drop a).take m = l.take (a + m) := by
  rw [List.take_add]
theorem joins_segGo {sdu : List Int} {most : Nat} (h24 : sdu.length ≤ 24) (hm : 1 ≤ most) (g : List (List Int)) :
    ∀ k at_, 0 < at_ → at_ < sdu.length → sdu.length - at_ ≤ k → (segGo sdu most k at_).foldlM joinGo (⟨sdu.length, sdu.take at_⟩, g) = some (join0, g ++ [sdu]) := by
  intro k
  induction k with
  | zero => intro at_ h1 h2 h3; omega
  | succ k ih =>
    intro at_ h1 h2 h3
    rw [segGo, if_pos h2, List.foldlM_cons]
    have hall : sdu.take at_ ++ (segAt sdu most at_).data = sdu.take (at_ + most) := take_app sdu at_ most
    have hlen : (sdu.take (at_ + most)).length = min (at_ + most) sdu.length := List.length_take
    by_cases he : at_ + most ≥ sdu.length
    · have e : joinGo (⟨sdu.length, sdu.take at_⟩, g) (segAt sdu most at_) = some (join0, g ++ [sdu]) := by
        have hs : (segAt sdu most at_).seg = 3 := by simp only [segAt, if_neg (by omega : ¬ at_ = 0), if_pos he]
        have hall' : sdu.take at_ ++ (segAt sdu most at_).data = sdu := by rw [hall, List.take_of_length_le (by omega)]
        have hp : segPut ⟨sdu.length, sdu.take at_⟩ (segAt sdu most at_) = (join0, sdu, 2) := by
          unfold segPut
          simp only [hs, hall']
          rw [if_neg (by omega), if_neg (by omega), if_neg (by omega), if_pos ⟨trivial, by omega, trivial⟩]
        unfold joinGo
        simp only [hp]
        rfl
      rw [e]
      have hz : segGo sdu most k (at_ + most) = [] := by
        cases k with
        | zero => rfl
        | succ k => rw [segGo, if_neg (by omega)]
      rw [hz]; rfl
    · have e : joinGo (⟨sdu.length, sdu.take at_⟩, g) (segAt sdu most at_) = some (⟨sdu.length, sdu.take (at_ + most)⟩, g) := by
        have hs : (segAt sdu most at_).seg = 2 := by simp only [segAt, if_neg (by omega : ¬ at_ = 0), if_neg he]
        have hp : segPut ⟨sdu.length, sdu.take at_⟩ (segAt sdu most at_) = (⟨sdu.length, sdu.take (at_ + most)⟩, [], 1) := by
          unfold segPut
          simp only [hs, hall]
          rw [if_neg (by omega), if_neg (by omega), if_pos ⟨trivial, by omega, by omega⟩]
        unfold joinGo
        simp only [hp]
        rfl
      rw [e]
      exact ih (at_ + most) (by omega) (by omega) (by omega)
theorem joins_segCut {sdu : List Int} {most : Int} (h24 : sdu.length ≤ 24) (h1 : 1 ≤ most) (h8 : most ≤ 8) (g : List (List Int)) :
    (segCut sdu most).foldlM joinGo (join0, g) = some (join0, g ++ [sdu]) := by
  unfold segCut
  rw [if_neg (by omega)]
  split
  · rename_i hle
    have hp : segPut join0 ⟨0, sdu.length, sdu⟩ = (join0, sdu, 2) := by simp [segPut, join0]
    rw [List.foldlM_cons]
    have : joinGo (join0, g) ⟨0, sdu.length, sdu⟩ = some (join0, g ++ [sdu]) := by unfold joinGo; simp only [hp]; rfl
    rw [this]; rfl
  · rename_i hle
    obtain ⟨k, hk⟩ : ∃ k, sdu.length = k + 1 := ⟨sdu.length - 1, by omega⟩
    have hg : segGo sdu most.toNat sdu.length 0 = segAt sdu most.toNat 0 :: segGo sdu most.toNat k most.toNat := by
      conv => lhs; arg 3; rw [hk]
      rw [segGo, if_pos (by omega), Nat.zero_add]
    rw [hg, List.foldlM_cons]
    have e : joinGo (join0, g) (segAt sdu most.toNat 0) = some (⟨sdu.length, sdu.take most.toNat⟩, g) := by
      have hp : segPut join0 (segAt sdu most.toNat 0) = (⟨sdu.length, sdu.take most.toNat⟩, [], 1) := by simp [segPut, join0, segAt]
      unfold joinGo; simp only [hp]; rfl
    rw [e]
    exact joins_segGo h24 (by omega) g k most.toNat (by omega) (by omega) (by omega)
theorem joinGo_grows {s t : Join × List (List Int)} {p : Part} (h : joinGo s p = some t) : ∃ x, t.2 = s.2 ++ x := by
  unfold joinGo at h
  split at h
  · cases h
  · injection h with h
    subst h
    simp only
    split
    · exact ⟨_, rfl⟩
    · exact ⟨[], by simp⟩
theorem joins_grow {l : List Part} : ∀ {s t : Join × List (List Int)}, l.foldlM joinGo s = some t → ∃ x, t.2 = s.2 ++ x := by
  induction l with
  | nil => intro s t h; simp only [List.foldlM_nil] at h; cases h; exact ⟨[], by simp⟩
  | cons p l ih =>
    intro s t h
    rw [List.foldlM_cons] at h
    obtain ⟨u, h1, h2⟩ := Option.bind_eq_some_iff.mp h
    obtain ⟨x, hx⟩ := joinGo_grows h1
    obtain ⟨y, hy⟩ := ih h2
    exact ⟨x ++ y, by rw [hy, hx, List.append_assoc]⟩
def pieces (most : Int) (put : List (List Int)) : List Part := put.flatMap fun m => segCut m most
theorem pieces_snoc (most : Int) (put : List (List Int)) (m : List Int) : pieces most (put ++ [m]) = pieces most put ++ segCut m most := by simp [pieces]
theorem pieces_length (most : Int) (put : List (List Int)) : (pieces most put).length ≤ put.length * 24 := by
  induction put with
  | nil => simp [pieces]
  | cons m l ih =>
    have h1 := segCut_length m most
    have e : pieces most (m :: l) = segCut m most ++ pieces most l := by simp [pieces]
    rw [e, List.length_append, List.length_cons, Nat.succ_mul]; omega
theorem joins_pieces' {most : Int} (h1 : 1 ≤ most) (h8 : most ≤ 8) (put : List (List Int)) (h24 : ∀ m ∈ put, m.length ≤ 24) : ∀ g, (pieces most put).foldlM joinGo (join0, g) = some (join0, g ++ put) := by
  induction put with
  | nil => intro g; simp [pieces]
  | cons m l ih =>
    intro g
    have e : pieces most (m :: l) = segCut m most ++ pieces most l := by simp [pieces]
    rw [e, List.foldlM_append, joins_segCut (h24 m List.mem_cons_self) h1 h8 g, Option.bind_eq_bind, Option.bind_some, ih (fun x hx => h24 x (List.mem_cons_of_mem _ hx))]
    simp
theorem joins_pieces {most : Int} (h1 : 1 ≤ most) (h8 : most ≤ 8) {put : List (List Int)} (h24 : ∀ m ∈ put, m.length ≤ 24) : joins (pieces most put) = some (join0, put) := by
  have := joins_pieces' h1 h8 put h24 []
  rw [List.nil_append] at this
  exact this
theorem joins_take {P : List Part} {put : List (List Int)} (h : joins P = some (join0, put)) (b : Nat) : ∃ s, joins (P.take b) = some s ∧ ∃ x, put = s.2 ++ x := by
  have e : P = P.take b ++ P.drop b := (List.take_append_drop b P).symm
  rw [e] at h
  unfold joins at h
  rw [List.foldlM_append] at h
  obtain ⟨s, h1, h2⟩ := Option.bind_eq_some_iff.mp h
  obtain ⟨x, hx⟩ := joins_grow h2
  exact ⟨s, h1, x, hx⟩
theorem joins_next {P : List Part} {put : List (List Int)} (h : joins P = some (join0, put)) {b : Nat} {p : Part} (hp : P[b]? = some p) {s : Join × List (List Int)} (hs : joins (P.take b) = some s) :
    (segPut s.1 p).2.2 ≠ 3 ∧ joins (P.take (b + 1)) = some ((segPut s.1 p).1, if (segPut s.1 p).2.2 = 2 then s.2 ++ [(segPut s.1 p).2.1] else s.2) := by
  obtain ⟨t, ht, _⟩ := joins_take h (b + 1)
  have hb : b < P.length := (List.getElem?_eq_some_iff.mp hp).1
  have e : P.take (b + 1) = P.take b ++ [p] := by
    rw [List.take_add_one, hp]; rfl
  have h2 : joins (P.take (b + 1)) = joinGo s p := by
    rw [e]; unfold joins at hs ⊢
    rw [List.foldlM_append, hs, Option.bind_eq_bind, Option.bind_some, List.foldlM_cons]
    cases joinGo s p <;> rfl
  have h3 : joinGo s p = some t := by rw [← h2]; exact ht
  unfold joinGo at h3 h2
  split at h3
  · cases h3
  · rename_i hc
    rw [if_neg hc] at h2
    exact ⟨hc, h2⟩
structure CfgI (c : Cfg) : Prop where
  mode : c.mode = 1 ∨ c.mode = 2
  win : 1 ≤ c.win ∧ c.win ≤ 4
  mps : 1 ≤ c.mps ∧ c.mps ≤ 8
  mtu : 1 ≤ c.mtu ∧ c.mtu ≤ 24
  tri : 1 ≤ c.tri ∧ c.tri ≤ 5
theorem cfgOk_iff {c : Cfg} : cfgOk c = true ↔ CfgI c := by
  unfold cfgOk
  simp only [Bool.and_eq_true, inB_iff]
  constructor
  · rintro ⟨⟨⟨⟨h1, h2⟩, h3⟩, h4⟩, h5⟩; exact ⟨by omega, h2, h3, h4, h5⟩
  · rintro ⟨h1, h2, h3, h4, h5⟩; exact ⟨⟨⟨⟨by omega, h2⟩, h3⟩, h4⟩, h5⟩
def PartsI (c : Cfg) (l : List Part) : Prop := ∀ p ∈ l, partOk p = true ∧ (p.data.length : Int) ≤ c.mps
theorem partsOk_iff {c : Cfg} {l : List Part} : partsOk c l = true ↔ PartsI c l := by
  unfold partsOk PartsI
  simp only [List.all_eq_true, Bool.and_eq_true, decide_eq_true_eq]
theorem PartsI.append {c : Cfg} {l m : List Part} (h : PartsI c l) (k : PartsI c m) : PartsI c (l ++ m) := fun p hp => (List.mem_append.mp hp).elim (h p) (k p)
theorem PartsI.drop {c : Cfg} {l : List Part} (h : PartsI c l) (n : Nat) : PartsI c (l.drop n) := fun p hp => h p (List.mem_of_mem_drop hp)
theorem PartsI.take {c : Cfg} {l : List Part} (h : PartsI c l) (n : Nat) : PartsI c (l.take n) := fun p hp => h p (List.mem_of_mem_take hp)
structure TxI (c : Cfg) (t : Tx) : Prop where
  cfg : CfgI c
  acked : 0 ≤ t.acked ∧ t.acked ≤ 7
  next : 0 ≤ t.next ∧ t.next ≤ 7
  far : far t.acked t.next = t.flight.length
  win : (t.flight.length : Int) ≤ c.win
  sent : 0 ≤ t.sent ∧ t.sent ≤ t.flight.length
  queue : t.queue.length ≤ 24
  tries : 0 ≤ t.tries ∧ t.tries ≤ c.tri
  count : 0 ≤ t.count ∧ t.count ≤ 9999
  num : numOf t.count = t.acked
  fl : PartsI c t.flight
  qu : PartsI c t.queue
theorem txOk_iff {c : Cfg} {t : Tx} : txOk c t = true ↔ TxI c t := by
  unfold txOk
  simp only [Bool.and_eq_true, inB_iff, isNum_iff, decide_eq_true_eq, cfgOk_iff, partsOk_iff]
  constructor
  · rintro ⟨⟨⟨⟨⟨⟨⟨⟨⟨⟨⟨h1, h2⟩, h3⟩, h4⟩, h5⟩, h6⟩, h7⟩, h8⟩, h9⟩, h10⟩, h11⟩, h12⟩
    exact ⟨h1, h2, h3, h4, h5, h6, h7, h8, h9, h10, h11, h12⟩
  · rintro ⟨h1, h2, h3, h4, h5, h6, h7, h8, h9, h10, h11, h12⟩
    exact ⟨⟨⟨⟨⟨⟨⟨⟨⟨⟨⟨h1, h2⟩, h3⟩, h4⟩, h5⟩, h6⟩, h7⟩, h8⟩, h9⟩, h10⟩, h11⟩, h12⟩
def Low (t : Tx) : Prop := t.count + t.flight.length ≤ 9999
theorem segCut_parts {c : Cfg} (sdu : List Int) : PartsI c (segCut sdu c.mps) := fun p hp => ⟨(segCut_mem hp).1, (segCut_mem hp).2.1⟩
theorem txPut_ok {c : Cfg} {t : Tx} {sdu : List Int} (h : TxI c t) (hl : Low t) : TxI c (txPut c t sdu).1 ∧ Low (txPut c t sdu).1 := by
  unfold txPut
  split
  · exact ⟨h, hl⟩
  · split
    · exact ⟨h, hl⟩
    · rename_i h2
      refine ⟨{ h with queue := ?_, qu := h.qu.append (segCut_parts sdu) }, hl⟩
      simp only [List.length_append]; omega
theorem txMove_ok {c : Cfg} {t : Tx} (h : TxI c t) (hl : Low t) (hw : t.sent = t.flight.length → (t.flight.length : Int) ≠ c.win ∧ t.queue ≠ [] ∧ t.count + t.flight.length ≠ 9999) : TxI c (txMove t) ∧ Low (txMove t) ∧ (txMove t).sent = t.sent ∧ t.sent < (txMove t).flight.length := by
  unfold txMove
  split
  · rename_i hs
    obtain ⟨h1, h2, h3⟩ := hw hs
    obtain ⟨p, q, hq⟩ := List.exists_cons_of_ne_nil h2
    have hc := h.cfg.win
    have hwn := h.win
    have hf := h.far
    have hse := h.sent
    have h1a := h.acked
    have h1n := h.next
    have hqq := h.qu
    have hql := h.queue
    unfold Low at hl
    unfold Go.Proofs.YtpjaidjnamngaaaGreat.far at hf
    have hnx : numNext t.next = (t.next + 1) % 8 := by unfold numNext; exact Int.tmod_eq_emod_of_nonneg (by omega)
    rw [hq] at hqq hql
    refine ⟨⟨h.cfg, h.acked, ?_, ?_, ?_, ?_, ?_, h.tries, h.count, h.num, ?_, ?_⟩, ?_, rfl, ?_⟩
    · simp only [hnx]; omega
    · simp only [hnx, hq, List.length_append, List.length_take, List.length_cons]; unfold Go.Proofs.YtpjaidjnamngaaaGreat.far; omega
    · simp only [hq, List.length_append, List.length_take, List.length_cons]; omega
    · simp only [hq, List.length_append, List.length_take, List.length_cons]; omega
    · simp only [hq, List.drop_succ_cons, List.drop_zero]; simp only [List.length_cons] at hql; omega
    · refine h.fl.append ?_; exact h.qu.take 1
    · exact h.qu.drop 1
    · unfold Low; simp only [hq, List.length_append, List.length_take, List.length_cons]; omega
    · simp only [hq, List.length_append, List.length_take, List.length_cons]; omega
  · rename_i hs
    refine ⟨h, hl, rfl, ?_⟩
    have := h.sent
    omega
theorem txStops_no {g : Bool} {c : Cfg} {t : Tx} (h : txStops g c t = false) : t.dead = false ∧ t.asks = false ∧ t.held = false ∧ (t.sent = t.flight.length → (t.flight.length : Int) ≠ c.win ∧ t.queue ≠ [] ∧ t.count + t.flight.length ≠ 9999) := by
  unfold txStops at h
  simp only [Bool.or_eq_false_iff, Bool.and_eq_false_iff, decide_eq_false_iff_not] at h
  obtain ⟨⟨⟨h1, h2⟩, h3⟩, h4⟩ := h
  refine ⟨h1, h2, h3, fun hs => ?_⟩
  rcases h4 with h4 | ⟨⟨h4, h5⟩, h6⟩
  · exact absurd hs h4
  · refine ⟨h4, h5, ?_⟩
    unfold txTop at h6
    split at h6
    · have := of_decide_eq_false h6; omega
    · exact of_decide_eq_false h6
theorem txSend_ok {g : Bool} {c : Cfg} {t : Tx} {ack : Int} (h : TxI c t) (hl : Low t) : TxI c (txSend g c t ack).1 ∧ Low (txSend g c t ack).1 := by
  unfold txSend
  by_cases hs : txStops g c t = true
  · rw [if_pos hs]; exact ⟨h, hl⟩
  · rw [if_neg hs]
    obtain ⟨h1, h2, h3, h4⟩ := txStops_no (by simpa using hs)
    obtain ⟨k1, k2, k3, k4⟩ := txMove_ok h hl h4
    refine ⟨{ k1 with sent := ?_ }, k2⟩
    have := h.sent
    simp only
    omega
theorem far_lt (a b : Int) : 0 ≤ far a b ∧ far a b ≤ 7 := by unfold far; omega
theorem txHear_ok {c : Cfg} {t : Tx} {f : Frm} (h : TxI c t) (hl : Low t) (hf : 0 ≤ f.ack ∧ f.ack ≤ 7) : TxI c (txHear t f) ∧ Low (txHear t f) := by
  unfold txHear
  split
  · exact ⟨h, hl⟩
  · split
    · exact ⟨{ h with }, hl⟩
    · rename_i h1 h2
      have hfl := far_lt t.acked f.ack
      have h3 := h.far
      have h4 := h.acked
      have h5 := h.next
      have h6 := h.num
      have h7 := h.count
      have h8 := h.sent
      have h9 := h.win
      have h10 := h.tries
      have h11 := h.cfg.win
      have h12 := h.cfg.tri
      unfold Low at hl
      have hd : ((t.flight.drop (far t.acked f.ack).toNat).length : Int) = t.flight.length - far t.acked f.ack := by rw [List.length_drop]; omega
      have hn : numOf (t.count + far t.acked f.ack) = f.ack := by
        unfold numOf at h6 ⊢
        rw [if_neg (by omega)] at h6 ⊢
        unfold far at *
        omega
      have hfar : far f.ack t.next = t.flight.length - far t.acked f.ack := by
        unfold far at *
        omega
      refine ⟨⟨h.cfg, hf, h.next, ?_, ?_, ?_, h.queue, ?_, ?_, hn, h.fl.drop _, h.qu⟩, ?_⟩
      · simp only [hd, hfar]
      · simp only [hd]; omega
      · simp only [hd]
        split
        · omega
        · split <;> omega
      · simp only; split <;> omega
      · simp only; omega
      · unfold Low; simp only [hd]; omega
theorem txTick_ok {c : Cfg} {t : Tx} {ack : Int} {busy : Bool} (h : TxI c t) (hl : Low t) : TxI c (txTick c t ack busy).1 ∧ Low (txTick c t ack busy).1 := by
  unfold txTick
  split
  · exact ⟨h, hl⟩
  · split
    · exact ⟨{ h with }, hl⟩
    · rename_i h1 h2
      have := h.tries
      exact ⟨{ h with tries := by simp only; omega }, hl⟩
/-! who hears -/
def JoinI (j : Join) : Prop := (j.len = 0 ∧ j.got = []) ∨ ((2 ≤ j.len ∧ j.len ≤ 24) ∧ 1 ≤ j.got.length ∧ (j.got.length : Int) ≤ j.len - 1)
theorem joinOk_iff {j : Join} : joinOk j = true ↔ JoinI j := by
  unfold joinOk JoinI
  simp only [Bool.or_eq_true, Bool.and_eq_true, decide_eq_true_eq, inB_iff]
  constructor
  · rintro (h | h); exact .inl h; exact .inr (by omega)
  · rintro (h | h); exact .inl h; exact .inr (by omega)
theorem JoinI.le {j : Join} (h : JoinI j) : j.got.length ≤ 23 := by
  rcases h with ⟨_, h⟩ | h
  · rw [h]; simp
  · omega
theorem segPut_ok {j : Join} {p : Part} (h : JoinI j) (hp : partOk p = true) : JoinI (segPut j p).1 ∧ ((segPut j p).2.2 = 2 → (segPut j p).2.1.length ≤ 24 ∧ (p.seg = 0 → (segPut j p).2.1.length = p.data.length) ∧ (p.seg = 0 ∨ (segPut j p).2.1.length = j.len)) := by
  unfold partOk at hp
  rw [pieceOk_iff] at hp
  have hj := h.le
  unfold segPut
  split
  · rename_i hc
    refine ⟨.inl ⟨rfl, rfl⟩, fun _ => ?_⟩
    rcases h with ⟨h1, h2⟩ | h
    · show (j.got ++ p.data).length ≤ 24 ∧ (p.seg = 0 → (j.got ++ p.data).length = p.data.length) ∧ (p.seg = 0 ∨ ((j.got ++ p.data).length : Int) = j.len)
      rw [h2, List.nil_append]
      exact ⟨by omega, fun _ => rfl, .inl hc.1⟩
    · omega
  · split
    · rename_i hc
      refine ⟨?_, fun he => by simp at he⟩
      rcases h with ⟨h1, h2⟩ | h
      · right
        show (2 ≤ p.len ∧ p.len ≤ 24) ∧ 1 ≤ (j.got ++ p.data).length ∧ ((j.got ++ p.data).length : Int) ≤ p.len - 1
        rw [h2, List.nil_append]; omega
      · omega
    · split
      · rename_i hc
        refine ⟨?_, fun he => by simp at he⟩
        rcases h with ⟨h1, h2⟩ | h
        · omega
        · right
          have h3 := hc.2.2
          simp only [List.length_append] at h3 ⊢
          omega
      · split
        · rename_i hc
          refine ⟨.inl ⟨rfl, rfl⟩, fun _ => ?_⟩
          rcases h with ⟨h1, h2⟩ | h
          · omega
          · simp only at *; omega
        · exact ⟨.inl ⟨rfl, rfl⟩, fun he => by simp at he⟩
structure RxI (r : Rx) : Prop where
  expect : 0 ≤ r.expect ∧ r.expect ≤ 7
  count : 0 ≤ r.count ∧ r.count ≤ 9999
  num : numOf r.count = r.expect
  join : JoinI r.join
theorem rxOk_iff {r : Rx} : rxOk r = true ↔ RxI r := by
  unfold rxOk
  simp only [Bool.and_eq_true, inB_iff, isNum_iff, decide_eq_true_eq, joinOk_iff]
  exact ⟨fun ⟨⟨⟨h1, h2⟩, h3⟩, h4⟩ => ⟨h1, h2, h3, h4⟩, fun ⟨h1, h2, h3, h4⟩ => ⟨⟨⟨h1, h2⟩, h3⟩, h4⟩⟩
theorem rxTake_ok {c : Cfg} {r : Rx} {f : Frm} (h : RxI r) (hp : pieceOk f.seg f.len f.data.length = true) : RxI (rxTake c r f).1 ∧ (∀ m ∈ (rxTake c r f).2, m.length ≤ 24) ∧ (rxTake c r f).2.length ≤ 1 := by
  have hs := segPut_ok (p := ⟨f.seg, f.len, f.data⟩) h.join hp
  unfold rxTake
  split
  · exact ⟨{ h with }, by simp, by simp⟩
  · rename_i hc
    simp only
    split
    · exact ⟨{ h with join := hs.1 }, by simp, by simp⟩
    · have h1 := h.expect
      have h2 := h.count
      have h3 := h.num
      have hnx : numNext r.expect = (r.expect + 1) % 8 := by unfold numNext; exact Int.tmod_eq_emod_of_nonneg (by omega)
      refine ⟨⟨?_, ?_, ?_, hs.1⟩, ?_, ?_⟩
      · simp only [hnx]; omega
      · simp only; omega
      · simp only [hnx]; unfold numOf at h3 ⊢; rw [if_neg (by omega)] at h3 ⊢; omega
      · simp only
        split
        · rename_i h4; intro m hm; rw [List.mem_singleton.mp hm]; exact (hs.2 h4).1
        · simp
      · simp only; split <;> simp
theorem rxHear_ok {c : Cfg} {r : Rx} {f : Frm} (h : RxI r) (hf : frmOk f = true) (hk : f.kind = 1 ∨ f.kind = 2) : RxI (rxHear c r f).1 ∧ (∀ m ∈ (rxHear c r f).2.1, m.length ≤ 24) ∧ (rxHear c r f).2.1.length ≤ 1 := by
  unfold rxHear
  split
  · exact ⟨h, by simp, by simp⟩
  · split
    · split
      · exact ⟨{ h with }, by simp, by simp⟩
      · exact ⟨h, by simp, by simp⟩
    · rename_i h2
      have hp : pieceOk f.seg f.len f.data.length = true := by
        have h1 : f.kind = 1 := by omega
        unfold frmOk at hf
        rw [if_pos h1] at hf
        simp only [Bool.and_eq_true] at hf
        exact hf.2
      split
      · exact ⟨h, by simp, by simp⟩
      · split
        · exact rxTake_ok h hp
        · split
          · exact ⟨{ h with }, by simp, by simp⟩
          · exact ⟨h, by simp, by simp⟩
theorem rxBusy_ok {r : Rx} {b : Bool} (h : RxI r) : RxI (rxBusy r b).1 := by
  unfold rxBusy; split
  · exact h
  · exact { h with }
/-! for credits -/
structure CTxI (c : Cfg) (t : CTx) : Prop where
  cfg : CfgI c
  hav : 0 ≤ t.hav ∧ t.hav ≤ 255
  granted : 0 ≤ t.granted ∧ t.granted ≤ 9999
  sent : 0 ≤ t.sent ∧ t.sent ≤ 9999
  sum : t.hav = t.granted - t.sent
  queue : t.queue.length ≤ 24
  qu : PartsI c t.queue
theorem ctxOk_iff {c : Cfg} {t : CTx} : ctxOk c t = true ↔ CTxI c t := by
  unfold ctxOk
  simp only [Bool.and_eq_true, inB_iff, decide_eq_true_eq, cfgOk_iff, partsOk_iff]
  exact ⟨fun ⟨⟨⟨⟨⟨⟨h1, h2⟩, h3⟩, h4⟩, h5⟩, h6⟩, h7⟩ => ⟨h1, h2, h3, h4, h5, h6, h7⟩, fun ⟨h1, h2, h3, h4, h5, h6, h7⟩ => ⟨⟨⟨⟨⟨⟨h1, h2⟩, h3⟩, h4⟩, h5⟩, h6⟩, h7⟩⟩
def CRxI (r : CRx) : Prop := (0 ≤ r.out ∧ r.out ≤ 255) ∧ JoinI r.join
theorem crxOk_iff {r : CRx} : crxOk r = true ↔ CRxI r := by
  unfold crxOk CRxI
  simp only [Bool.and_eq_true, inB_iff, joinOk_iff]
theorem crdPut_ok {c : Cfg} {t : CTx} {sdu : List Int} (h : CTxI c t) : CTxI c (crdPut c t sdu).1 := by
  unfold crdPut
  split
  · exact h
  · split
    · exact h
    · refine { h with queue := ?_, qu := h.qu.append (segCut_parts sdu) }
      simp only [List.length_append]; omega
theorem crdSend_ok {c : Cfg} {t : CTx} (h : CTxI c t) : CTxI c (crdSend t).1 := by
  unfold crdSend
  split
  · exact h
  · rename_i p q hq
    split
    · exact h
    · rename_i hc
      have h1 := h.hav; have h2 := h.granted; have h3 := h.sent; have h4 := h.sum; have h5 := h.queue; have h6 := h.qu
      rw [hq] at h5 h6
      simp only [List.length_cons] at h5
      refine ⟨h.cfg, ?_, h.granted, ?_, ?_, ?_, fun p hp => h6 p (List.mem_cons_of_mem _ hp)⟩ <;> simp only <;> omega
theorem crdTake_ok {c : Cfg} {t : CTx} {n : Int} (h : CTxI c t) (hn : 0 ≤ n) : CTxI c (crdTake t n) := by
  unfold crdTake
  split
  · exact h
  · split
    · exact { h with }
    · have h1 := h.hav; have h2 := h.granted; have h3 := h.sent; have h4 := h.sum
      refine ⟨h.cfg, ?_, ?_, h.sent, ?_, h.queue, h.qu⟩ <;> simp only <;> omega
theorem crdGrant_ok {r : CRx} (h : CRxI r) : CRxI (crdGrant r).1 := by
  unfold crdGrant
  split
  · exact h
  · exact ⟨by simp only; omega, h.2⟩
theorem crdHear_ok {c : Cfg} {r : CRx} {f : Frm} (h : CRxI r) (hp : pieceOk f.seg f.len f.data.length = true) : CRxI (crdHear c r f).1 ∧ (∀ m ∈ (crdHear c r f).2, m.length ≤ 24) ∧ (crdHear c r f).2.length ≤ 1 := by
  have hs := segPut_ok (p := ⟨f.seg, f.len, f.data⟩) h.2 hp
  have h1 := h.1
  unfold crdHear
  split
  · exact ⟨h, by simp, by simp⟩
  · split
    · exact ⟨h, by simp, by simp⟩
    · rename_i hc
      simp only
      split
      · exact ⟨⟨by simp only; omega, hs.1⟩, by simp, by simp⟩
      · refine ⟨⟨by simp only; omega, hs.1⟩, ?_, ?_⟩
        · simp only
          split
          · rename_i h4; intro m hm; rw [List.mem_singleton.mp hm]; exact (hs.2 h4).1
          · simp
        · simp only; split <;> simp
/-! two ends -/
def SdusI (l : List (List Int)) : Prop := l.length ≤ 60 ∧ ∀ m ∈ l, m.length ≤ 24
theorem sdusOk_iff {l : List (List Int)} : sdusOk l = true ↔ SdusI l := by
  unfold sdusOk SdusI
  simp only [Bool.and_eq_true, decide_eq_true_eq, List.all_eq_true]
structure EndI (c : Cfg) (e : End) : Prop where
  tx : TxI c e.tx
  low : Low e.tx
  rx : RxI e.rx
  ctx : CTxI c e.ctx
  crx : CRxI e.crx
  put : SdusI e.put
  got : SdusI e.got
def NetI (l : List Msg) : Prop := l.length ≤ 30 ∧ ∀ m ∈ l, m.bytes.length ≤ 15
theorem netOk_iff {l : List Msg} : netOk l = true ↔ NetI l := by
  unfold netOk NetI
  simp only [Bool.and_eq_true, decide_eq_true_eq, List.all_eq_true]
structure WldI (w : Wld) : Prop where
  cfg : CfgI w.cfg
  le : w.ends.length = 2
  ln : w.net.length = 2
  ends : ∀ i, i < 2 → EndI w.cfg (endAt w i)
  net : ∀ i, i < 2 → NetI (netAt w i)
  link : 0 ≤ w.link ∧ w.link ≤ 1
theorem two_of_length {α : Type} {l : List α} (h : l.length = 2) : ∃ a b, l = [a, b] := by
  match l, h with
  | [a, b], _ => exact ⟨a, b, rfl⟩
theorem endOk_of {c : Cfg} {x : End} (hx : EndI c x) : endOk c x = true := by
  unfold endOk
  simp only [Bool.and_eq_true, txOk_iff, rxOk_iff, ctxOk_iff, crxOk_iff, sdusOk_iff]
  exact ⟨⟨⟨⟨⟨hx.tx, hx.rx⟩, hx.ctx⟩, hx.crx⟩, hx.put⟩, hx.got⟩
theorem WldI.ok {w : Wld} (h : WldI w) : wldOk w = true := by
  obtain ⟨a, b, he⟩ := two_of_length h.le
  obtain ⟨m, n, hn⟩ := two_of_length h.ln
  have h0 := h.ends 0 (by omega); have h1 := h.ends 1 (by omega)
  have k0 := h.net 0 (by omega); have k1 := h.net 1 (by omega)
  simp only [endAt, netAt, he, hn, List.getD_cons_zero, List.getD_cons_succ] at h0 h1 k0 k1
  unfold wldOk
  simp only [he, hn, List.all_cons, List.all_nil, endOk_of h0, endOk_of h1, netOk_iff.mpr k0, netOk_iff.mpr k1, cfgOk_iff.mpr h.cfg, inB_iff.mpr h.link, List.length_cons, List.length_nil]
  decide
theorem endAt_setEnd {w : Wld} (hl : w.ends.length = 2) {i : Nat} (hi : i < 2) (e : End) (j : Nat) : endAt (setEnd w i e) j = if j = i then e else endAt w j := by
  unfold endAt setEnd
  simp only [List.getD_eq_getElem?_getD, List.getElem?_set]
  by_cases h : j = i
  · subst h; rw [if_pos rfl, if_pos (by omega), if_pos rfl]; rfl
  · rw [if_neg (fun e => h e.symm), if_neg h]
theorem netAt_setNet {w : Wld} (hl : w.net.length = 2) {i : Nat} (hi : i < 2) (m : List Msg) (j : Nat) : netAt (setNet w i m) j = if j = i then m else netAt w j := by
  unfold netAt setNet
  simp only [List.getD_eq_getElem?_getD, List.getElem?_set]
  by_cases h : j = i
  · subst h; rw [if_pos rfl, if_pos (by omega), if_pos rfl]; rfl
  · rw [if_neg (fun e => h e.symm), if_neg h]
theorem endAt_setNet (w : Wld) (i : Nat) (m : List Msg) (j : Nat) : endAt (setNet w i m) j = endAt w j := rfl
theorem cfg_setNet (w : Wld) (i : Nat) (m : List Msg) : (setNet w i m).cfg = w.cfg := rfl
theorem WldI.setEnd {w : Wld} (h : WldI w) {i : Nat} (hi : i < 2) {e : End} (he : EndI w.cfg e) : WldI (setEnd w i e) := by
  refine ⟨h.cfg, by simp [Go.Proofs.YtpjaidjnamngaaaGreat.setEnd, h.le], h.ln, ?_, h.net, h.link⟩
  intro j hj
  rw [endAt_setEnd h.le hi]
  split
  · exact he
  · exact h.ends j hj
theorem WldI.setNet {w : Wld} (h : WldI w) {i : Nat} (hi : i < 2) {m : List Msg} (hm : NetI m) : WldI (setNet w i m) := by
  refine ⟨h.cfg, h.le, by simp [Go.Proofs.YtpjaidjnamngaaaGreat.setNet, h.ln], h.ends, ?_, h.link⟩
  intro j hj
  rw [netAt_setNet h.ln hi]
  split
  · exact hm
  · exact h.net j hj
theorem wldNew_I {c : Cfg} (h : CfgI c) : WldI (wldNew c) := by
  unfold wldNew
  rw [if_pos (cfgOk_iff.mpr h)]
  have hw := h.win; have ht := h.tri
  have he : EndI c end0 := by
    refine ⟨⟨h, by simp [end0, tx0], by simp [end0, tx0], by simp [end0, tx0, far], by simp [end0, tx0]; omega, by simp [end0, tx0], by simp [end0, tx0], by simp [end0, tx0]; omega, by simp [end0, tx0], by simp [end0, tx0, numOf], ?_, ?_⟩, by simp [Low, end0, tx0], ⟨by simp [end0, rx0], by simp [end0, rx0], by simp [end0, rx0, numOf], .inl ⟨rfl, rfl⟩⟩, ⟨h, by simp [end0, ctx0], by simp [end0, ctx0], by simp [end0, ctx0], by simp [end0, ctx0], by simp [end0, ctx0], ?_⟩, ⟨by simp [end0, crx0], .inl ⟨rfl, rfl⟩⟩, ⟨by simp [end0], by simp [end0]⟩, ⟨by simp [end0], by simp [end0]⟩⟩
    all_goals (intro p hp; simp [end0, tx0, ctx0] at hp)
  refine ⟨h, rfl, rfl, ?_, ?_, by simp⟩
  · intro i hi
    have : i = 0 ∨ i = 1 := by omega
    rcases this with rfl | rfl <;> exact he
  · intro i hi
    have : i = 0 ∨ i = 1 := by omega
    rcases this with rfl | rfl <;> exact ⟨by simp [netAt], by simp [netAt]⟩
/-! what happens -/
theorem NetI.snoc {l : List Msg} (h : NetI l) (hl : l.length < 30) {m : Msg} (hm : m.bytes.length ≤ 15) : NetI (l ++ [m]) := by
  refine ⟨by simp; omega, fun x hx => ?_⟩
  rcases List.mem_append.mp hx with hx | hx
  · exact h.2 x hx
  · rw [List.mem_singleton.mp hx]; exact hm
theorem NetI.tail {m : Msg} {l : List Msg} (h : NetI (m :: l)) : NetI l := ⟨by have := h.1; simp at this; omega, fun x hx => h.2 x (List.mem_cons_of_mem _ hx)⟩
theorem say1_I {w : Wld} (h : WldI w) {who : Nat} (f : Frm) : WldI (say1 w who f) := by
  unfold say1
  split
  · rename_i hl
    exact h.setNet (by omega) ((h.net _ (by omega)).snoc hl (frmBytes_le f))
  · exact h
theorem says_I {who : Nat} (l : List Frm) : ∀ {w : Wld}, WldI w → WldI (says w who l) := by
  induction l with
  | nil => intro w h; exact h
  | cons f l ih => intro w h; exact ih (say1_I h f)
theorem sayO_I {w : Wld} (h : WldI w) {who : Nat} (o : Option Frm) : WldI (sayO w who o) := by
  cases o with
  | none => exact h
  | some f => exact say1_I h f
theorem tell_I {got l : List (List Int)} (h : SdusI got) (hl : ∀ m ∈ l, m.length ≤ 24) : SdusI (tell got l) := by
  unfold tell
  induction l generalizing got with
  | nil => exact h
  | cons m l ih =>
    rw [List.foldl_cons]
    refine ih ?_ (fun x hx => hl x (List.mem_cons_of_mem _ hx))
    split
    · rename_i hlt
      refine ⟨by simp; omega, fun x hx => ?_⟩
      rcases List.mem_append.mp hx with hx | hx
      · exact h.2 x hx
      · rw [List.mem_singleton.mp hx]; exact hl m List.mem_cons_self
    · exact h
theorem put_I {c : Cfg} {put : List (List Int)} {sdu : List Int} (h : SdusI put) (hl : put.length < 60) (hm : (sdu.length : Int) ≤ c.mtu) (hc : CfgI c) : SdusI (put ++ [sdu]) := by
  have := hc.mtu
  refine ⟨by simp; omega, fun x hx => ?_⟩
  rcases List.mem_append.mp hx with hx | hx
  · exact h.2 x hx
  · rw [List.mem_singleton.mp hx]; omega
theorem txPut_yes {c : Cfg} {t : Tx} {sdu : List Int} (h : (txPut c t sdu).2 = true) : (sdu.length : Int) ≤ c.mtu ∧ t.dead = false ∧ (txPut c t sdu).1 = { t with queue := t.queue ++ segCut sdu c.mps } := by
  unfold txPut at h ⊢
  split at h
  · cases h
  · rename_i h1
    split at h
    · cases h
    · rename_i h2
      rw [if_neg h1, if_neg h2]
      exact ⟨by omega, by simpa using fun hd => h1 (.inl hd), rfl⟩
theorem crdPut_yes {c : Cfg} {t : CTx} {sdu : List Int} (h : (crdPut c t sdu).2 = true) : (sdu.length : Int) ≤ c.mtu ∧ t.dead = false ∧ (crdPut c t sdu).1 = { t with queue := t.queue ++ segCut sdu c.mps } := by
  unfold crdPut at h ⊢
  split at h
  · cases h
  · rename_i h1
    split at h
    · cases h
    · rename_i h2
      rw [if_neg h1, if_neg h2]
      exact ⟨by omega, by simpa using fun hd => h1 (.inl hd), rfl⟩
theorem byNum_I {g : Bool} {w : Wld} (h : WldI w) {who : Nat} (hw : who < 2) (e : Evt) : WldI (byNum g w who e) := by
  have hx := h.ends who hw
  unfold byNum
  simp only
  split
  · split
    · rename_i hl
      have hp := txPut_ok (sdu := e.data) hx.tx hx.low
      refine h.setEnd hw { hx with tx := hp.1, low := hp.2, put := ?_ }
      simp only
      split
      · rename_i hy; exact put_I hx.put hl (txPut_yes hy).1 h.cfg
      · exact hx.put
    · exact h
  · split
    · split
      · have hp := txSend_ok (g := g) (ack := (endAt w who).rx.expect) hx.tx hx.low
        refine sayO_I (h.setEnd hw ?_) _; exact { hx with tx := hp.1, low := hp.2 }
      · exact h
    · split
      · have hp := txTick_ok (ack := (endAt w who).rx.expect) (busy := (endAt w who).rx.busy) hx.tx hx.low
        refine sayO_I (h.setEnd hw ?_) _; exact { hx with tx := hp.1, low := hp.2 }
      · split
        · exact says_I _ (h.setEnd hw { hx with rx := rxBusy_ok hx.rx })
        · split
          · split
            · exact h
            · exact say1_I h _
          · exact h
theorem forCrd_I {w : Wld} (h : WldI w) {who : Nat} (hw : who < 2) (e : Evt) : WldI (forCrd w who e) := by
  have hx := h.ends who hw
  unfold forCrd
  simp only
  split
  · split
    · rename_i hl
      refine h.setEnd hw { hx with ctx := crdPut_ok hx.ctx, put := ?_ }
      simp only
      split
      · rename_i hy; exact put_I hx.put hl (crdPut_yes hy).1 h.cfg
      · exact hx.put
    · exact h
  · split
    · split
      · refine sayO_I (h.setEnd hw ?_) _; exact { hx with ctx := crdSend_ok hx.ctx }
      · exact h
    · split
      · split
        · refine sayO_I (h.setEnd hw ?_) _; exact { hx with crx := crdGrant_ok hx.crx }
        · exact h
      · exact h
theorem hearF_I {w : Wld} (h : WldI w) {who : Nat} (hw : who < 2) {f : Frm} (hf : frmOk f = true) : WldI (hearF w who f) := by
  have hx := h.ends who hw
  have hb := frmOk_bound hf
  unfold hearF
  simp only
  split
  · split
    · rename_i hk
      have h1 := txHear_ok (f := f) hx.tx hx.low (by omega)
      have h2 := rxHear_ok (c := w.cfg) hx.rx hf hk
      exact says_I _ (h.setEnd hw { hx with tx := h1.1, low := h1.2, rx := h2.1, got := tell_I hx.got h2.2.1 })
    · exact h
  · split
    · exact h.setEnd hw { hx with ctx := crdTake_ok hx.ctx (by omega) }
    · split
      · rename_i hk
        have hp : pieceOk f.seg f.len f.data.length = true := by
          unfold frmOk at hf
          rw [if_neg (by omega), if_neg (by omega), if_pos hk] at hf
          simp only [Bool.and_eq_true] at hf
          exact hf.2
        have h2 := crdHear_ok (c := w.cfg) hx.crx hp
        exact h.setEnd hw { hx with crx := h2.1, got := tell_I hx.got h2.2.1 }
      · exact h
theorem hear1_I {w : Wld} (h : WldI w) {who : Nat} (hw : who < 2) : WldI (hear1 w who) := by
  unfold hear1
  split
  · exact h
  · rename_i m l hn
    have hnet := h.net who hw
    rw [hn] at hnet
    split
    · exact h.setNet hw hnet.tail
    · rename_i f hf
      exact hearF_I (h.setNet hw hnet.tail) hw (frmRead_ok hf).1
theorem bendM_length (m : Msg) (a v : Int) : (bendM m a v).bytes.length = m.bytes.length := by
  unfold bendM; split
  · simp
  · rfl
theorem step_I {g : Bool} {w : Wld} (h : WldI w) (e : Evt) : WldI (step g w e) := by
  unfold step
  split
  · exact h
  · rename_i hw
    have hw' : e.who.toNat < 2 := by omega
    simp only
    have hnet := h.net _ hw'
    split
    · exact hear1_I h hw'
    · split
      · refine h.setNet hw' ?_
        exact ⟨by have := hnet.1; simp; omega, fun x hx => hnet.2 x (List.mem_of_mem_drop hx)⟩
      · split
        · split
          · exact h
          · rename_i m l hn
            rw [hn] at hnet
            refine h.setNet hw' ⟨by have := hnet.1; simpa using this, fun x hx => ?_⟩
            rcases List.mem_cons.mp hx with rfl | hx
            · rw [bendM_length]; exact hnet.2 m List.mem_cons_self
            · exact hnet.2 x (List.mem_cons_of_mem _ hx)
        · split
          · have hl := h.link
            refine ⟨h.cfg, h.le, rfl, h.ends, ?_, by simp only; omega⟩
            intro i hi
            have : i = 0 ∨ i = 1 := by omega
            rcases this with rfl | rfl <;> exact ⟨by simp [netAt], by simp [netAt]⟩
          · split
            · split
              · rename_i hc
                exact h.setNet hw' (hnet.snoc hc.1 hc.2)
              · exact h
            · split
              · exact byNum_I h hw' e
              · exact forCrd_I h hw' e
def rdN (l : List Msg) : List Frm := l.filterMap fun m => frmRead m.bytes
def isP (P : List Part) (f : Frm) (s : Nat) : Prop := f.seq = (s : Int) % 8 ∧ P[s]? = some ⟨f.seg, f.len, f.data⟩
def Way (win : Nat) (P : List Part) (top : Nat) : Nat → List Frm → Prop
  | _, [] => True
  | lo, f :: l => if f.kind = 1 then ∃ s, isP P f s ∧ s < top ∧ lo ≤ s + win ∧ Way win P top (max lo (s + 1)) l else Way win P top lo l
def Acks (hi : Nat) : Nat → List Frm → Prop
  | lo, [] => lo ≤ hi
  | lo, f :: l => ∃ k : Nat, f.ack = (k : Int) % 8 ∧ lo ≤ k ∧ k ≤ hi ∧ Acks hi k l
theorem Way.mono {win : Nat} {P : List Part} {top : Nat} {l : List Frm} : ∀ {lo lo' : Nat}, Way win P top lo l → lo' ≤ lo → Way win P top lo' l := by
  induction l with
  | nil => intro lo lo' _ _; trivial
  | cons f l ih =>
    intro lo lo' h hl
    unfold Way at h ⊢
    split
    · rename_i hk
      rw [if_pos hk] at h
      obtain ⟨s, h1, h2, h3, h4⟩ := h
      exact ⟨s, h1, h2, by omega, ih h4 (by omega)⟩
    · rename_i hk
      rw [if_neg hk] at h
      exact ih h hl
theorem Way.grow {win : Nat} {P Q : List Part} {top top' : Nat} {l : List Frm} (hP : ∀ (s : Nat) (p : Part), P[s]? = some p → Q[s]? = some p) (ht : top ≤ top') : ∀ {lo : Nat}, Way win P top lo l → Way win Q top' lo l := by
  induction l with
  | nil => intro lo _; trivial
  | cons f l ih =>
    intro lo h
    unfold Way at h ⊢
    split
    · rename_i hk
      rw [if_pos hk] at h
      obtain ⟨s, h1, h2, h3, h4⟩ := h
      exact ⟨s, ⟨h1.1, hP _ _ h1.2⟩, by omega, h3, ih h4⟩
    · rename_i hk
      rw [if_neg hk] at h
      exact ih h
theorem Way.tail {win : Nat} {P : List Part} {top lo : Nat} {f : Frm} {l : List Frm} (h : Way win P top lo (f :: l)) : Way win P top lo l := by
  unfold Way at h
  split at h
  · obtain ⟨s, h1, h2, h3, h4⟩ := h
    exact h4.mono (by omega)
  · exact h
theorem Way.snoc {win : Nat} {P : List Part} {top : Nat} {f : Frm} {s : Nat} (hf : isP P f s) (hs : s < top) (hw : top ≤ s + win) {l : List Frm} : ∀ {lo : Nat}, Way win P top lo l → lo ≤ top → Way win P top lo (l ++ [f]) := by
  induction l with
  | nil =>
    intro lo _ hl
    show Way win P top lo (f :: [])
    unfold Way
    split
    · exact ⟨s, hf, hs, by omega, trivial⟩
    · trivial
  | cons g l ih =>
    intro lo h hl
    rw [List.cons_append]
    unfold Way at h ⊢
    split
    · rename_i hk
      rw [if_pos hk] at h
      obtain ⟨s', h1, h2, h3, h4⟩ := h
      exact ⟨s', h1, h2, h3, ih h4 (by omega)⟩
    · rename_i hk
      rw [if_neg hk] at h
      exact ih h hl
theorem Way.snoc_say {win : Nat} {P : List Part} {top : Nat} {f : Frm} (hf : f.kind ≠ 1) {l : List Frm} : ∀ {lo : Nat}, Way win P top lo l → Way win P top lo (l ++ [f]) := by
  induction l with
  | nil =>
    intro lo _
    show Way win P top lo (f :: [])
    unfold Way
    rw [if_neg hf]; trivial
  | cons g l ih =>
    intro lo h
    rw [List.cons_append]
    unfold Way at h ⊢
    split
    · rename_i hk
      rw [if_pos hk] at h
      obtain ⟨s', h1, h2, h3, h4⟩ := h
      exact ⟨s', h1, h2, h3, ih h4⟩
    · rename_i hk
      rw [if_neg hk] at h
      exact ih h
theorem Acks.le {hi : Nat} {l : List Frm} : ∀ {lo : Nat}, Acks hi lo l → lo ≤ hi := by
  cases l with
  | nil => intro lo h; exact h
  | cons f l => intro lo h; obtain ⟨k, _, h2, h3, _⟩ := h; omega
theorem Acks.mono {hi : Nat} {l : List Frm} : ∀ {lo lo' : Nat}, Acks hi lo l → lo' ≤ lo → Acks hi lo' l := by
  cases l with
  | nil => intro lo lo' h hl; exact Nat.le_trans hl h
  | cons f l => intro lo lo' h hl; obtain ⟨k, h1, h2, h3, h4⟩ := h; exact ⟨k, h1, by omega, h3, h4⟩
theorem Acks.tail {hi lo : Nat} {f : Frm} {l : List Frm} (h : Acks hi lo (f :: l)) : Acks hi lo l := by
  obtain ⟨k, h1, h2, h3, h4⟩ := h; exact h4.mono h2
theorem Acks.grow {hi hi' : Nat} (hh : hi ≤ hi') {l : List Frm} : ∀ {lo : Nat}, Acks hi lo l → Acks hi' lo l := by
  induction l with
  | nil => intro lo h; exact Nat.le_trans h hh
  | cons f l ih => intro lo h; obtain ⟨k, h1, h2, h3, h4⟩ := h; exact ⟨k, h1, h2, by omega, ih h4⟩
theorem Acks.snoc {hi : Nat} {f : Frm} (hf : f.ack = (hi : Int) % 8) {l : List Frm} : ∀ {lo : Nat}, Acks hi lo l → Acks hi lo (l ++ [f]) := by
  induction l with
  | nil => intro lo h; exact ⟨hi, hf, h, Nat.le_refl _, Nat.le_refl _⟩
  | cons g l ih => intro lo h; obtain ⟨k, h1, h2, h3, h4⟩ := h; exact ⟨k, h1, h2, h3, ih h4⟩
structure Dir (c : Cfg) (put : List (List Int)) (t : Tx) (r : Rx) (got : List (List Int)) (D A : List Frm) (a b : Nat) : Prop where
  ca : t.count = a
  cb : r.count = b
  ab : a ≤ b
  bf : b ≤ a + t.flight.length
  al : a ≤ (pieces c.mps put).length
  fq : (pieces c.mps put).drop a = t.flight ++ t.queue
  jn : joins ((pieces c.mps put).take b) = some (r.join, got)
  rd : r.dead = false
  mtu : ∀ m ∈ put, (m.length : Int) ≤ c.mtu
  way : Way c.win.toNat (pieces c.mps put) (a + t.flight.length) b D
  acks : Acks b a A
section
variable {c : Cfg} {put : List (List Int)} {t t' : Tx} {r r' : Rx} {got : List (List Int)} {D A : List Frm} {a b : Nat} {f : Frm}
theorem Dir.top (h : Dir c put t r got D A a b) : a + t.flight.length ≤ (pieces c.mps put).length := by
  have h1 := congrArg List.length h.fq
  have h2 := h.al
  simp only [List.length_drop, List.length_append] at h1
  omega
theorem Dir.loseD (h : Dir c put t r got (f :: D) A a b) : Dir c put t r got D A a b := { h with way := h.way.tail }
theorem Dir.loseA (h : Dir c put t r got D (f :: A) a b) : Dir c put t r got D A a b := { h with acks := h.acks.tail }
theorem Dir.noD (h : Dir c put t r got D A a b) : Dir c put t r got [] A a b := { h with way := trivial }
theorem Dir.noA (h : Dir c put t r got D A a b) : Dir c put t r got D [] a b := { h with acks := h.ab }
theorem Dir.sayD (h : Dir c put t r got D A a b) (hf : f.kind ≠ 1) : Dir c put t r got (D ++ [f]) A a b := { h with way := h.way.snoc_say hf }
theorem Dir.expect (h : Dir c put t r got D A a b) (hr : RxI r) : r.expect = (b : Int) % 8 := by
  have := hr.num
  rw [h.cb] at this
  unfold numOf at this
  rw [if_neg (by omega)] at this
  exact this.symm
theorem Dir.acked (h : Dir c put t r got D A a b) (ht : TxI c t) : t.acked = (a : Int) % 8 := by
  have := ht.num
  rw [h.ca] at this
  unfold numOf at this
  rw [if_neg (by omega)] at this
  exact this.symm
theorem Dir.sayA (h : Dir c put t r got D A a b) (hr : RxI r) (hf : f.ack = r.expect) : Dir c put t r got D (A ++ [f]) a b := { h with acks := h.acks.snoc (by rw [hf]; exact h.expect hr) }
theorem Dir.puts (h : Dir c put t r got D A a b) (m : List Int) (hm : (m.length : Int) ≤ c.mtu) : Dir c (put ++ [m]) { t with queue := t.queue ++ segCut m c.mps } r got D A a b := by
  have ht := h.top
  have hb := h.bf
  have hp := pieces_snoc c.mps put m
  refine ⟨h.ca, h.cb, h.ab, h.bf, ?_, ?_, ?_, h.rd, ?_, ?_, h.acks⟩
  · rw [hp, List.length_append]; omega
  · rw [hp, List.drop_append_of_le_length h.al, h.fq, List.append_assoc]
  · rw [hp, List.take_append_of_le_length (by omega)]; exact h.jn
  · intro x hx
    rcases List.mem_append.mp hx with hx | hx
    · exact h.mtu x hx
    · rw [List.mem_singleton.mp hx]; exact hm
  · refine h.way.grow (fun s p hs => ?_) (Nat.le_refl _)
    rw [hp, List.getElem?_append_left (List.getElem?_eq_some_iff.mp hs).1]; exact hs
theorem txSend_some {g : Bool} {ack : Int} (h : (txSend g c t ack).2 = some f) : txStops g c t = false ∧ (txSend g c t ack).1 = { txMove t with sent := t.sent + 1 } ∧ f = dataFrm ((txMove t).flight.getD t.sent.toNat part0) ((t.acked + t.sent) % 8) ack := by
  unfold txSend at h ⊢
  split at h
  · cases h
  · rename_i hs
    rw [if_neg hs]
    injection h with h
    exact ⟨by simpa using hs, rfl, h.symm⟩
theorem txMove_all (hq : t.sent = t.flight.length → t.queue ≠ []) : (txMove t).flight ++ (txMove t).queue = t.flight ++ t.queue ∧ t.flight.length ≤ (txMove t).flight.length ∧ (txMove t).count = t.count := by
  unfold txMove
  split
  · rename_i hs
    refine ⟨?_, by simp, rfl⟩
    simp only [List.append_assoc, List.take_append_drop]
  · exact ⟨rfl, Nat.le_refl _, rfl⟩
def MaySend (c : Cfg) (put : List (List Int)) (t : Tx) (f : Frm) : Prop := ∃ s, isP (pieces c.mps put) f s ∧ s < t.count.toNat + t.flight.length ∧ t.count.toNat + t.flight.length ≤ s + c.win.toNat
theorem Dir.sendD (h : Dir c put t r got D A a b) (hf : MaySend c put t f) : Dir c put t r got (D ++ [f]) A a b := by
  obtain ⟨s, h1, h2, h3⟩ := hf
  rw [h.ca, Int.toNat_natCast] at h2 h3
  exact { h with way := h.way.snoc h1 h2 h3 h.bf }
theorem Dir.send {g : Bool} {ack : Int} (h : Dir c put t r got D A a b) (ht : TxI c t) (hl : Low t) (hf : (txSend g c t ack).2 = some f) : Dir c put (txSend g c t ack).1 r got D A a b ∧ MaySend c put (txSend g c t ack).1 f ∧ f.ack = ack ∧ f.kind = 1 ∧ (txSend g c t ack).1.sent = t.sent + 1 ∧ isP (pieces c.mps put) f (a + t.sent.toNat) := by
  obtain ⟨h1, h2, h3⟩ := txSend_some hf
  rw [h2]
  obtain ⟨k1, k2, k3, k4⟩ := txStops_no h1
  obtain ⟨m1, m2, m3, m4⟩ := txMove_ok ht hl k4
  obtain ⟨n1, n2, n3⟩ := txMove_all (fun hs => (k4 hs).2.1)
  have hse := ht.sent
  have hw := m1.win
  have hbf := h.bf
  have hac := h.acked ht
  have hca := h.ca
  have hlt : t.sent.toNat < (txMove t).flight.length := by omega
  have hP : isP (pieces c.mps put) f (a + t.sent.toNat) := by
    refine ⟨?_, ?_⟩
    · rw [h3]; simp only [dataFrm]; rw [hac]; omega
    · have e : (pieces c.mps put)[a + t.sent.toNat]? = ((pieces c.mps put).drop a)[t.sent.toNat]? := by rw [List.getElem?_drop]
      rw [e, h.fq, ← n1, List.getElem?_append_left hlt, h3]
      simp only [dataFrm]
      rw [List.getD_eq_getElem?_getD, List.getElem?_eq_getElem hlt]
      rfl
  refine ⟨⟨by rw [← h.ca]; exact n3, h.cb, h.ab, by simp only; omega, h.al, by rw [h.fq, ← n1], h.jn, h.rd, h.mtu, ?_, h.acks⟩, ⟨a + t.sent.toNat, hP, ?_, ?_⟩, by rw [h3]; rfl, by rw [h3]; rfl, rfl, hP⟩
  · exact h.way.grow (fun s p hs => hs) (by simp only; omega)
  · simp only [n3, hca]; omega
  · simp only [n3, hca]; omega
theorem Way.next {win : Nat} (hwin : win ≤ 4) {P : List Part} {top b : Nat} (ht : top ≤ b + win) {l : List Frm} (h : Way win P top b (f :: l)) (hk : f.kind = 1) (hs : f.seq = (b : Int) % 8) : isP P f b ∧ b < top ∧ Way win P top (b + 1) l := by
  unfold Way at h
  rw [if_pos hk] at h
  obtain ⟨s, h1, h2, h3, h4⟩ := h
  have h5 := h1.1
  have : s = b := by omega
  subst this
  exact ⟨h1, h2, h4.mono (by omega)⟩
theorem goWait_02 (b : Bool) : 0 ≤ goWait b ∧ goWait b ≤ 2 := by cases b <;> simp [goWait]
end
def MsgI (m : Msg) : Prop := (m.bent = true ∧ frmRead m.bytes = none) ∨ (m.bent = false ∧ ∃ f, frmOk f = true ∧ (f.kind = 1 ∨ f.kind = 2) ∧ Bys f.data ∧ m.bytes = frmBytes f)
structure NumI (w : Wld) : Prop where
  ok : WldI w
  mode : w.cfg.mode = 1
  msg : ∀ i, i < 2 → ∀ m ∈ netAt w i, MsgI m
  bys : ∀ i, i < 2 → ∀ m ∈ (endAt w i).put, Bys m
  dir : ∀ i, i < 2 → ∃ a b, Dir w.cfg (endAt w i).put (endAt w i).tx (endAt w (1 - i)).rx (endAt w (1 - i)).got (rdN (netAt w (1 - i))) (rdN (netAt w i)) a b
theorem rdN_snoc (l : List Msg) {f : Frm} (h : frmOk f = true) : rdN (l ++ [⟨false, frmBytes f⟩]) = rdN l ++ [f] := by
  unfold rdN
  rw [List.filterMap_append]
  simp [frmRead_bytes h]
theorem rdN_cons_some {m : Msg} {l : List Msg} {f : Frm} (h : frmRead m.bytes = some f) : rdN (m :: l) = f :: rdN l := by simp [rdN, h]
theorem rdN_cons_none {m : Msg} {l : List Msg} (h : frmRead m.bytes = none) : rdN (m :: l) = rdN l := by simp [rdN, h]
theorem sayFrm_ok {ack : Int} {poll fin : Bool} {say : Int} (h1 : 0 ≤ ack ∧ ack ≤ 7) (h2 : (poll && fin) = false) (h3 : 0 ≤ say ∧ say ≤ 2) : frmOk (sayFrm ack poll fin say) = true := by
  simp only [frmOk, sayFrm, isNum_iff.mpr h1, h2, inB_iff.mpr h3]
  simp
theorem dataFrm_ok {p : Part} {seq ack : Int} (hp : partOk p = true) (h1 : 0 ≤ seq ∧ seq ≤ 7) (h2 : 0 ≤ ack ∧ ack ≤ 7) : frmOk (dataFrm p seq ack) = true := by
  unfold partOk at hp
  simp only [frmOk, dataFrm, isNum_iff.mpr h1, isNum_iff.mpr h2, hp]
  simp
theorem NumI.say1 {w : Wld} (h : NumI w) {i : Nat} (hi : i < 2) {f : Frm} (hf : frmOk f = true) (hk : f.kind = 1 ∨ f.kind = 2) (hb : Bys f.data) (ha : f.ack = (endAt w i).rx.expect) (hs : f.kind = 1 → MaySend w.cfg (endAt w i).put (endAt w i).tx f) : NumI (say1 w i f) := by
  have hok := say1_I (who := i) h.ok f
  unfold Go.Proofs.YtpjaidjnamngaaaGreat.say1 at hok ⊢
  split at hok
  · rename_i hl
    rw [if_pos hl]
    have hj : 1 - i < 2 := by omega
    have hij : 1 - (1 - i) = i := by omega
    refine ⟨hok, h.mode, ?_, h.bys, ?_⟩
    · intro j hj' m hm
      rw [netAt_setNet h.ok.ln hj] at hm
      split at hm
      · rename_i e
        subst e
        rcases List.mem_append.mp hm with hm | hm
        · exact h.msg _ hj m hm
        · rw [List.mem_singleton.mp hm]; exact .inr ⟨rfl, f, hf, hk, hb, rfl⟩
      · exact h.msg j hj' m hm
    · intro j hj'
      obtain ⟨a, b, hd⟩ := h.dir j hj'
      refine ⟨a, b, ?_⟩
      simp only [endAt_setNet, cfg_setNet, netAt_setNet h.ok.ln hj]
      by_cases e : j = i
      · subst e
        rw [if_pos rfl, if_neg (by omega), rdN_snoc _ hf]
        rcases hk with hk | hk
        · exact hd.sendD (hs hk)
        · exact hd.sayD (by omega)
      · have e' : j = 1 - i := by omega
        subst e'
        rw [if_neg (by omega), if_pos rfl, rdN_snoc _ hf]
        refine hd.sayA (h.ok.ends _ (by omega)).rx ?_
        rw [hij, ha]
  · rename_i hl
    rw [if_neg hl]; exact h
theorem endAt_say1 (w : Wld) (i j : Nat) (f : Frm) : endAt (say1 w i f) j = endAt w j := by unfold say1; split <;> rfl
theorem NumI.says {i : Nat} (hi : i < 2) (l : List Frm) : ∀ {w : Wld}, NumI w → (∀ x ∈ l, ∃ fin say, x = sayFrm (endAt w i).rx.expect false fin say ∧ 0 ≤ say ∧ say ≤ 2) → NumI (says w i l) := by
  induction l with
  | nil => intro w h _; exact h
  | cons f l ih =>
    intro w h hl
    obtain ⟨fin, say, rfl, h1, h2⟩ := hl f List.mem_cons_self
    have he := (h.ok.ends i hi).rx.expect
    refine ih (h.say1 hi (sayFrm_ok he rfl ⟨h1, h2⟩) (.inr rfl) (by intro x hx; simp [sayFrm] at hx) rfl (fun hk => by simp [sayFrm] at hk)) ?_
    intro x hx
    rw [endAt_say1]
    exact hl x (List.mem_cons_of_mem _ hx)
theorem NumI.netTo {w : Wld} (h : NumI w) {i : Nat} (hi : i < 2) {l : List Msg} (hl : NetI l) (hm : ∀ m ∈ l, MsgI m)
    (hr : rdN l = rdN (netAt w i) ∨ (∃ f, rdN (netAt w i) = f :: rdN l) ∨ rdN l = []) : NumI (setNet w i l) := by
  refine ⟨h.ok.setNet hi hl, h.mode, ?_, h.bys, ?_⟩
  · intro j hj m hm'
    rw [netAt_setNet h.ok.ln hi] at hm'
    split at hm'
    · exact hm m hm'
    · exact h.msg j hj m hm'
  · intro j hj
    obtain ⟨a, b, hd⟩ := h.dir j hj
    refine ⟨a, b, ?_⟩
    simp only [endAt_setNet, cfg_setNet, netAt_setNet h.ok.ln hi]
    by_cases e : j = i
    · subst e
      rw [if_pos rfl, if_neg (by omega)]
      rcases hr with hr | ⟨f, hr⟩ | hr
      · rw [hr]; exact hd
      · rw [hr] at hd; exact hd.loseA
      · rw [hr]; exact hd.noA
    · have e' : j = 1 - i := by omega
      subst e'
      have hij : 1 - (1 - i) = i := by omega
      rw [hij] at hd ⊢
      rw [if_pos rfl, if_neg (by omega)]
      rcases hr with hr | ⟨f, hr⟩ | hr
      · rw [hr]; exact hd
      · rw [hr] at hd; exact hd.loseD
      · rw [hr]; exact hd.noD
theorem NumI.drop {w : Wld} (h : NumI w) {i : Nat} (hi : i < 2) {m : Msg} {l : List Msg} (hn : netAt w i = m :: l) : NumI (setNet w i l) := by
  have hnet := h.ok.net i hi
  rw [hn] at hnet
  refine h.netTo hi hnet.tail (fun x hx => h.msg i hi x (by rw [hn]; exact List.mem_cons_of_mem _ hx)) ?_
  rw [hn]
  cases hf : frmRead m.bytes with
  | none => left; rw [rdN_cons_none hf]
  | some f => right; left; exact ⟨f, rdN_cons_some hf⟩
theorem txTick_alike {c : Cfg} {t : Tx} {ack : Int} {busy : Bool} : (txTick c t ack busy).1.count = t.count ∧ (txTick c t ack busy).1.flight = t.flight ∧ (txTick c t ack busy).1.queue = t.queue := by
  unfold txTick; split
  · exact ⟨rfl, rfl, rfl⟩
  · split <;> exact ⟨rfl, rfl, rfl⟩
theorem txTick_some {c : Cfg} {t : Tx} {ack : Int} {busy : Bool} {f : Frm} (h : (txTick c t ack busy).2 = some f) : f = sayFrm ack true false (goWait busy) := by
  unfold txTick at h
  split at h
  · cases h
  · split at h
    · cases h
    · injection h with h; exact h.symm
open Go.RowKit
theorem inB_no {n lo hi : Int} : inB n lo hi = false ↔ ¬ (lo ≤ n ∧ n ≤ hi) := by rw [← inB_iff]; simp
structure Rep (α : Type) where
  sz : Nat
  K : Zc → α → List Value → Prop
  len : ∀ {z x cs}, K z x cs → cs.length = sz
  one : ∀ {z x cs}, K z x cs → ∀ u ∈ cs, u.oneCell' = true
  mono : ∀ {z z' : Zc} {x cs}, z ≤ z' → K z x cs → K z' x cs
def Els {α : Type} (d : Rep α) (z : Zc) : List α → List Value → Prop
  | [], cs => cs = []
  | x :: xs, cs => ∃ c r, cs = c ++ r ∧ d.K z x c ∧ Els d z xs r
def Sl {α : Type} (d : Rep α) (z : Zc) (xs : List α) (v : Value) : Prop := ∃ A c cs, v = .slice A xs.length c ∧ xs.length ≤ c ∧ Els d z xs cs ∧ RdAt z A 0 cs
section
variable {α : Type} {d : Rep α} {z z' : Zc} {xs ys : List α} {cs ds : List Value} {x : α} {v : Value}
theorem Els.mono (hz : z ≤ z') (h : Els d z xs cs) : Els d z' xs cs := by
  induction xs generalizing cs with
  | nil => exact h
  | cons x xs ih => obtain ⟨c, r, rfl, h1, h2⟩ := h; exact ⟨c, r, rfl, d.mono hz h1, ih h2⟩
theorem Els.length (h : Els d z xs cs) : cs.length = xs.length * d.sz := by
  induction xs generalizing cs with
  | nil => rw [show cs = [] from h]; simp
  | cons x xs ih =>
    obtain ⟨c, r, rfl, h1, h2⟩ := h
    rw [List.length_append, d.len h1, ih h2, List.length_cons, Nat.succ_mul]; omega
theorem Els.one (h : Els d z xs cs) : ∀ u ∈ cs, u.oneCell' = true := by
  induction xs generalizing cs with
  | nil => rw [show cs = [] from h]; simp
  | cons x xs ih =>
    obtain ⟨c, r, rfl, h1, h2⟩ := h
    intro u hu
    rcases List.mem_append.mp hu with hu | hu
    · exact d.one h1 u hu
    · exact ih h2 u hu
theorem Els.append (h : Els d z xs cs) (k : Els d z ys ds) : Els d z (xs ++ ys) (cs ++ ds) := by
  induction xs generalizing cs with
  | nil => rw [show cs = [] from h]; exact k
  | cons x xs ih => obtain ⟨c, r, rfl, h1, h2⟩ := h; exact ⟨c, r ++ ds, by simp, h1, ih h2⟩
theorem Els.single (h : d.K z x cs) : Els d z [x] cs := ⟨cs, [], by simp, h, rfl⟩
theorem Els.drop (h : Els d z xs cs) (k : Nat) : Els d z (xs.drop k) (cs.drop (k * d.sz)) := by
  induction k generalizing xs cs with
  | zero => simpa using h
  | succ k ih =>
    cases xs with
    | nil => rw [show cs = [] from h]; simp [Els]
    | cons x xs =>
      obtain ⟨c, r, rfl, h1, h2⟩ := h
      have := ih h2
      rw [List.drop_succ_cons, Nat.succ_mul, Nat.add_comm, ← List.drop_drop, ← d.len h1, List.drop_left]
      rw [d.len h1]; exact this
theorem Els.take (h : Els d z xs cs) (k : Nat) : Els d z (xs.take k) (cs.take (k * d.sz)) := by
  induction k generalizing xs cs with
  | zero => simp [Els]
  | succ k ih =>
    cases xs with
    | nil => rw [show cs = [] from h]; simp [Els]
    | cons x xs =>
      obtain ⟨c, r, rfl, h1, h2⟩ := h
      have hl := d.len h1
      rw [List.take_succ_cons]
      refine ⟨c, r.take (k * d.sz), ?_, h1, ih h2⟩
      rw [List.take_append, List.take_of_length_le (by rw [Nat.succ_mul]; omega), hl, show (k + 1) * d.sz - d.sz = k * d.sz by rw [Nat.succ_mul]; omega]
theorem Els.get (h : Els d z xs cs) {k : Nat} (hk : xs[k]? = some x) : ∃ c, d.K z x c ∧ ∀ i u, c[i]? = some u → cs[k * d.sz + i]? = some u := by
  induction xs generalizing cs k with
  | nil => simp at hk
  | cons y xs ih =>
    obtain ⟨c, r, rfl, h1, h2⟩ := h
    have hl := d.len h1
    cases k with
    | zero =>
      simp only [List.getElem?_cons_zero, Option.some.injEq] at hk
      subst hk
      refine ⟨c, h1, fun i u hu => ?_⟩
      rw [Nat.zero_mul, Nat.zero_add, List.getElem?_append_left (List.getElem?_eq_some_iff.mp hu).1]; exact hu
    | succ k =>
      obtain ⟨c', k1, k2⟩ := ih h2 (k := k) (by simpa using hk)
      refine ⟨c', k1, fun i u hu => ?_⟩
      rw [Nat.succ_mul, List.getElem?_append_right (by omega), show k * d.sz + d.sz + i - c.length = k * d.sz + i by omega]
      exact k2 i u hu
theorem Els.split (h : Els d z (xs ++ ys) cs) : ∃ c1 c2, cs = c1 ++ c2 ∧ Els d z xs c1 ∧ Els d z ys c2 := by
  induction xs generalizing cs with
  | nil => exact ⟨[], cs, rfl, rfl, h⟩
  | cons x xs ih =>
    obtain ⟨c, r, rfl, h1, h2⟩ := h
    obtain ⟨c1, c2, rfl, h3, h4⟩ := ih h2
    exact ⟨c ++ c1, c2, by simp, ⟨c, c1, rfl, h1, h3⟩, h4⟩
theorem Sl.mono (hz : z ≤ z') (h : Sl d z xs v) : Sl d z' xs v := by
  obtain ⟨A, c, cs, rfl, hc, he, hr⟩ := h
  exact ⟨A, c, cs, rfl, hc, he.mono hz, hr.mono hz⟩
theorem Sl.nil (z : Zc) (A : Option Addr) (c : Nat) : Sl d z [] (.slice A 0 c) := ⟨A, c, [], rfl, Nat.zero_le _, rfl, RdAt.nil _ _ _⟩
theorem Sl.one (h : Sl d z xs v) : v.oneCell' = true := by obtain ⟨A, c, cs, rfl, _⟩ := h; rfl
theorem RdAt.isAt {A : Option Addr} {o : Nat} {vs : List Value} (h : RdAt z A o vs) (hn : 0 < vs.length) : IsAt A := by
  obtain ⟨b, o', e, _⟩ := h (by intro e; rw [e] at hn; simp at hn); exact ⟨b, o', e⟩
theorem Els.at {A : Option Addr} (h : Els d z xs cs) (hr : RdAt z A 0 cs) {k : Nat} (hk : xs[k]? = some x) : ∃ c, d.K z x c ∧ RdAt z A (k * d.sz) c := by
  obtain ⟨c, h1, h2⟩ := h.get hk
  refine ⟨c, h1, ?_⟩
  have := hr.sub (k * d.sz) c h2
  rwa [Nat.zero_add] at this
theorem Els.isAt {A : Option Addr} (h : Els d z xs cs) (hr : RdAt z A 0 cs) (hs : 0 < d.sz) {k : Nat} (hk : k < xs.length) : IsAt A :=
  hr.isAt (by rw [h.length]; exact Nat.mul_pos (by omega) hs)
theorem RdAt.cut {A : Option Addr} {c l sz : Nat} (hr : RdAt z A 0 cs) (hl : cs.length ≤ c * sz) : RdAt z (cutA A c l sz) 0 (cs.drop (l * sz)) := fun hn => by
  unfold cutA
  split
  · rename_i e
    subst e
    exact absurd (List.drop_eq_nil_of_le hl) hn
  · obtain ⟨b, o', e, hb, hc⟩ := hr (by intro e; subst e; simp at hn)
    subst e
    refine ⟨b, o' + l * sz, by simp [add_at], hb, fun i u hu => ?_⟩
    rw [List.getElem?_drop] at hu
    have := hc _ u hu
    rw [show o' + l * sz + 0 + i = o' + 0 + (l * sz + i) by omega]; exact this
theorem RdAt.take {A : Option Addr} {o : Nat} (hr : RdAt z A o cs) (n : Nat) : RdAt z A o (cs.take n) := by
  have := hr.sub 0 (cs.take n) (fun i u hu => by
    have hi := (List.getElem?_eq_some_iff.1 hu).1
    simp at hi
    rw [List.getElem?_take_of_lt (by omega)] at hu
    rwa [Nat.zero_add])
  simpa using this
end
theorem RdAt.cell {z : Zc} {A : Option Addr} {o : Nat} {cs : List Value} (h : RdAt z A o cs) (k : Nat) {u : Value} (hk : cs[k]? = some u) : RdAt z A (o + k) [u] :=
  h.sub k [u] fun i x hx => by
    cases i with
    | zero => simp at hx; subst hx; exact hk
    | succ i => simp at hx
theorem Sl.take {α : Type} {d : Rep α} {z : Zc} {xs : List α} {A : Option Addr} {n c : Nat} (h : Sl d z xs (.slice A n c)) {k c' : Nat} (hk : k ≤ xs.length) (hc' : k ≤ c') : Sl d z (xs.take k) (.slice A k c') := by
  obtain ⟨A', c1, cs, e, hc, he, hr⟩ := h
  injection e with e1 e2 e3
  subst e1; subst e3
  refine ⟨A, c', cs.take (k * d.sz), ?_, ?_, he.take k, hr.take _⟩
  · rw [List.length_take, Nat.min_eq_left hk]
  · rw [List.length_take]; omega
theorem Sl.drop {α : Type} {d : Rep α} {z : Zc} {xs : List α} {A : Option Addr} {n c : Nat} (h : Sl d z xs (.slice A n c)) {k : Nat} : Sl d z (xs.drop k) (.slice (cutA A c k d.sz) (n - k) (c - k)) := by
  obtain ⟨A', c1, cs, e, hc, he, hr⟩ := h
  injection e with e1 e2 e3
  subst e1; subst e3; subst e2
  refine ⟨_, _, cs.drop (k * d.sz), by rw [List.length_drop], by rw [List.length_drop]; omega, he.drop k, hr.cut ?_⟩
  rw [he.length]; exact Nat.mul_le_mul_right _ hc
def bRep : Rep Int where
  sz := 1
  K := fun _ x cs => cs = [.int .u8 x] ∧ 0 ≤ x ∧ x ≤ 255
  len := by rintro z x cs ⟨rfl, _⟩; rfl
  one := by rintro z x cs ⟨rfl, _⟩ u hu; rw [List.mem_singleton.mp hu]; rfl
  mono := fun _ h => h
abbrev bc (l : List Int) : List Value := l.map (Value.int .u8)
theorem Els.bytes {z : Zc} {l : List Int} {cs : List Value} (h : Els bRep z l cs) : cs = bc l ∧ Bys l := by
  induction l generalizing cs with
  | nil => rw [show cs = [] from h]; exact ⟨rfl, fun x hx => by cases hx⟩
  | cons x l ih =>
    obtain ⟨c, r, rfl, ⟨rfl, hx⟩, h2⟩ := h
    obtain ⟨rfl, k⟩ := ih h2
    exact ⟨rfl, fun y hy => by rcases List.mem_cons.mp hy with rfl | hy; exact hx; exact k y hy⟩
theorem Els.of_bytes {z : Zc} {l : List Int} (h : Bys l) : Els bRep z l (bc l) := by
  induction l with
  | nil => rfl
  | cons x l ih => exact ⟨[.int .u8 x], _, rfl, ⟨rfl, h x List.mem_cons_self⟩, ih (fun y hy => h y (List.mem_cons_of_mem _ hy))⟩
abbrev By (z : Zc) (l : List Int) (v : Value) : Prop := Sl bRep z l v
theorem By.form {z : Zc} {l : List Int} {v : Value} (h : By z l v) : ∃ A c, v = .slice A l.length c ∧ l.length ≤ c ∧ Bys l ∧ RdAt z A 0 (bc l) := by
  obtain ⟨A, c, cs, rfl, hc, he, hr⟩ := h
  obtain ⟨rfl, hb⟩ := he.bytes
  exact ⟨A, c, rfl, hc, hb, hr⟩
theorem By.mk {z : Zc} {l : List Int} {A : Option Addr} {c : Nat} (hc : l.length ≤ c) (hb : Bys l) (hr : RdAt z A 0 (bc l)) : By z l (.slice A l.length c) := ⟨A, c, _, rfl, hc, Els.of_bytes hb, hr⟩
theorem By.bys {z : Zc} {l : List Int} {v : Value} (h : By z l v) : Bys l := by obtain ⟨_, _, _, _, h, _⟩ := h.form; exact h
def Rep.slice {α : Type} (d : Rep α) : Rep (List α) where
  sz := 1
  K := fun z xs cs => ∃ v, cs = [v] ∧ Sl d z xs v
  len := by rintro z x cs ⟨v, rfl, _⟩; rfl
  one := by rintro z x cs ⟨v, rfl, h⟩ u hu; rw [List.mem_singleton.mp hu]; exact h.one
  mono := by rintro z z' x cs hz ⟨v, rfl, h⟩; exact ⟨v, rfl, h.mono hz⟩
abbrev sduRep : Rep (List Int) := bRep.slice
def pRep : Rep Part where
  sz := 3
  K := fun z p cs => ∃ v, cs = [.int .i64 p.seg, .int .i64 p.len, v] ∧ By z p.data v
  len := by rintro z x cs ⟨v, rfl, _⟩; rfl
  one := by rintro z x cs ⟨v, rfl, h⟩ u hu; simp at hu; rcases hu with rfl | rfl | rfl; rfl; rfl; exact h.one
  mono := by rintro z z' x cs hz ⟨v, rfl, h⟩; exact ⟨v, rfl, Sl.mono hz h⟩
def mRep : Rep Msg where
  sz := 2
  K := fun z m cs => ∃ v, cs = [.bool m.bent, v] ∧ By z m.bytes v
  len := by rintro z x cs ⟨v, rfl, _⟩; rfl
  one := by rintro z x cs ⟨v, rfl, h⟩ u hu; simp at hu; rcases hu with rfl | rfl; rfl; exact h.one
  mono := by rintro z z' x cs hz ⟨v, rfl, h⟩; exact ⟨v, rfl, Sl.mono hz h⟩
def fRep : Rep Frm where
  sz := 9
  K := fun z f cs => ∃ v, cs = [.int .i64 f.kind, .int .i64 f.seq, .int .i64 f.ack, .bool f.poll, .bool f.fin, .int .i64 f.say, .int .i64 f.seg, .int .i64 f.len, v] ∧ By z f.data v
  len := by rintro z x cs ⟨v, rfl, _⟩; rfl
  one := by rintro z x cs ⟨v, rfl, h⟩ u hu; simp at hu; rcases hu with rfl | rfl | rfl | rfl | rfl | rfl | rfl | rfl | rfl <;> first | rfl | exact h.one
  mono := by rintro z z' x cs hz ⟨v, rfl, h⟩; exact ⟨v, rfl, Sl.mono hz h⟩
abbrev vCfg (c : Cfg) : Value := .agg #[.int .i64 c.mode, .int .i64 c.win, .int .i64 c.mps, .int .i64 c.mtu, .int .i64 c.tri]
abbrev vPart (p : Part) (v : Value) : Value := .agg #[.int .i64 p.seg, .int .i64 p.len, v]
abbrev vFrm (f : Frm) (v : Value) : Value := .agg #[.int .i64 f.kind, .int .i64 f.seq, .int .i64 f.ack, .bool f.poll, .bool f.fin, .int .i64 f.say, .int .i64 f.seg, .int .i64 f.len, v]
abbrev vJoin (j : Join) (v : Value) : Value := .agg #[.int .i64 j.len, v]
abbrev vCRx (r : CRx) (v : Value) : Value := .agg #[.int .i64 r.out, .int .i64 r.join.len, v, .bool r.dead]
abbrev vCTx (t : CTx) (v : Value) : Value := .agg #[.int .i64 t.hav, v, .int .i64 t.granted, .int .i64 t.sent, .bool t.dead]
abbrev vRx (r : Rx) (v : Value) : Value := .agg #[.int .i64 r.expect, .int .i64 r.count, .int .i64 r.join.len, v, .bool r.again, .bool r.busy, .bool r.dead]
abbrev vTx (t : Tx) (v u : Value) : Value := .agg #[.int .i64 t.next, .int .i64 t.acked, v, .int .i64 t.sent, u, .bool t.asks, .int .i64 t.tries, .bool t.held, .int .i64 t.count, .bool t.dead]
end Go.Proofs.YtpjaidjnamngaaaGreat
