/- Who sends, by the reference. · Who hears, by the reference. · Who hears a frame, or is busy, by the reference. · Frames' bytes, one's own; sends. · Who sends, sends a piece, by the reference. · Codes of functions, group Wld. · Two ends over a link, as the reference holds them. · What goes on its way, by the reference. -/
import Derived.Test.YtllafcmkppmdgaaGreatB9
import Derived.Test.YtllafcmkppmdgaaGreatB6
import Derived.Test.YtllafcmkppmdgaaGreatProg
namespace Go.Proofs.YtllafcmkppmdgaaGreat
open Go.RowKit
set_option linter.unusedVariables false
set_option linter.unusedSimpArgs false
set_option maxRecDepth 100000
set_option maxHeartbeats 1000000
abbrev tyP : Nat := 109
theorem l6frame (p : Part) (v : Value) (seq ack : Int) (z : Zc) (h : By z p.data v) (hl : p.data.length ≤ 1000000000) : PSpec Tryz.prog 152 [vPart p v, .int .i64 seq, .int .i64 ack] z fun u z' => ∃ A k, u = vFrm (dataFrm p seq ack) (.slice A p.data.length k) ∧ By z' p.data (.slice A p.data.length k) := by
 obtain ⟨A, k, rfl, hk, hB, hr⟩ := h.form
 refine eP k152 ?_
 refine gO ?_
 refine aT ?_; (refine appM_empty 99 atyB rfl (by first | exact .inl ⟨_, rfl⟩ | exact .inr ⟨_, _, rfl⟩) rfl hr (by first | omega | (simp <;> omega)) (bc_one _) (by omega) (fun A2 c2 z2 hz2 hc2 hr2 => ?_)); dsimp only at hz2; refine gO ?_
 (first|refine fN ?_|exact fZ)
 exact ⟨_, _, rfl, By.mk hc2 hB hr2⟩
theorem l6copy (t : Tx) (q1 q2 : Value) (z : Zc) (h1 : Sl pRep z t.flight q1) (h2 : Sl pRep z t.queue q2) (hl1 : t.flight.length ≤ 1000000) (hl2 : t.queue.length ≤ 1000000) (hp1 : ∀ p ∈ t.flight, p.data.length ≤ 1000000000) (hp2 : ∀ p ∈ t.queue, p.data.length ≤ 1000000000) :
  Spec Tryz.prog 94 [vTx t q1 q2] z emp fun u z' A' => ∃ A c B d cs ds, u = vTx t (.slice A t.flight.length c) (.slice B t.queue.length d) ∧ A' = starL [rowA tyP 3 (.slice A t.flight.length c) t.flight.length cs, rowA tyP 3 (.slice B t.queue.length d) t.queue.length ds] ∧ t.flight.length ≤ c ∧ t.queue.length ≤ d ∧ Els pRep z' t.flight cs ∧ Els pRep z' t.queue ds := by
 obtain ⟨A, k, cs, rfl, hk, he, hr⟩ := h1
 obtain ⟨A2, k2, cs2, rfl, hk2, he2, hr2⟩ := h2
 refine eA k94 ?_
 refine gO ?_
 refine tT ?_; refine callO 90 (l6list_s t.flight _ z ⟨A, k, cs, rfl, hk, he, hr⟩ hl1 hp1) rfl rfl rfl ?_; rintro u z1 A' hz1 ⟨A3, k3, cs3, rfl, rfl, hk3, he3⟩; refine gO ?_
 refine tT ?_; refine callO 91 (l6list_s t.queue _ z1 (Sl.mono hz1 ⟨A2, k2, cs2, rfl, hk2, he2, hr2⟩) hl2 hp2) rfl rfl rfl ?_; rintro u z2 A' hz2 ⟨A4, k4, cs4, rfl, rfl, hk4, he4⟩; refine gO ?_
 (refine FinV.pk 92 [90, 91] ?_); dsimp only
 (((try simp only [seval, go_sem]);repeat((with_reducible first|refine vJ ?_|refine vK ?_);try simp only [seval, go_sem])); refine FinV.own 92 rfl ?_; simp only [finE, finS, gt, look, SV.toV, SC.toV, allV, tupV, zq1, zq2, zq3, zq4, Nat.reduceAdd, Nat.reduceEqDiff, reduceCtorEq, if_true, if_false, reduceIte, Nat.succ_ne_self, true_and, zq5, zq7, zq8])
 exact ⟨_, _, _, _, _, _, rfl, rfl, hk3, hk4, he3.mono hz2, he4⟩
theorem txTick_none {c : Cfg} {t : Tx} {ack : Int} {busy : Bool} (h : t.dead = true ∨ (t.flight = [] ∧ t.held = false ∧ t.asks = false)) : txTick c t ack busy = (t, none) := by unfold txTick; rw [if_pos h]
theorem txTick_end {c : Cfg} {t : Tx} {ack : Int} {busy : Bool} (h : ¬ (t.dead = true ∨ (t.flight = [] ∧ t.held = false ∧ t.asks = false))) (k : t.tries = c.tri) : txTick c t ack busy = ({ t with dead := true }, none) := by unfold txTick; rw [if_neg h, if_pos k]
theorem txTick_yes {c : Cfg} {t : Tx} {ack : Int} {busy : Bool} (h : ¬ (t.dead = true ∨ (t.flight = [] ∧ t.held = false ∧ t.asks = false))) (k : t.tries ≠ c.tri) : txTick c t ack busy = ({ t with asks := true, tries := t.tries + 1 }, some (sayFrm ack true false (goWait busy))) := by unfold txTick; rw [if_neg h, if_neg k]
theorem wait_bit (b : Bool) : IntKind.i64.wrap (2 * bit b) = goWait b := by cases b <;> rfl
theorem l6tick (c : Cfg) (t : Tx) (A B : Option Addr) (m a b : Nat) (ack : Int) (busy : Bool) (z : Zc) (ht : -1000000 ≤ t.tries ∧ t.tries ≤ 1000000) :
  PSpec Tryz.prog 122 [vCfg c, vTx t (.slice A t.flight.length a) (.slice B m b), .int .i64 ack, .bool busy] z fun u z' => ∃ x, u = .tuple #[vTx (txTick c t ack busy).1 (.slice A t.flight.length a) (.slice B m b), vFrm ((txTick c t ack busy).2.getD frm0) x, .bool (txTick c t ack busy).2.isSome] ∧ By z' ((txTick c t ack busy).2.getD frm0).data x := by
 refine eP k122 ?_
 (try simp only [seval, go_sem]); repeat' (first | (with_reducible refine vsI.id ?_; (try simp only [seval, go_sem])) | (with_reducible refine vcI_cond ?_; (try simp only [seval, go_sem])) | (with_reducible refine guardR.split (fun hg => ?_) (fun hg => ?_) <;> (try simp only [hg]) <;> simp only [seval, go_sem]) | (with_reducible refine condI.split (fun hg => ?_) (fun hg => ?_) <;> (try simp only [hg]) <;> (try simp only [seval, go_sem])) | (with_reducible refine callM.toT ?_) | (refine callP (bit_s _ _) rfl rfl ?_; rintro _ _ - ⟨rfl, rfl⟩; (try simp only [seval, go_sem])))
 all_goals (first|refine fN ?_|exact fZ)
 all_goals have w1 : IntKind.i64.wrap (t.tries + 1) = t.tries + 1 := wrap_in (by omega) (by omega)
 all_goals first
  | (rw [txTick_none (by simp_all)]; refine ⟨.slice none 0 0, ?_, Sl.nil _ _ _⟩; simp_all [vTx, vFrm, frm0]; done)
  | (rw [txTick_end (by simp_all) (by simp_all)]; refine ⟨.slice none 0 0, ?_, Sl.nil _ _ _⟩; simp_all [vTx, vFrm, frm0]; done)
  | (rw [txTick_yes (by simp_all) (by simp_all)]; refine ⟨.slice none 0 0, ?_, Sl.nil _ _ _⟩; simp_all [vTx, vFrm, sayFrm, wait_bit]; done)
theorem txPut_same {c : Cfg} {t : Tx} {sdu : List Int} (k : t.dead = true ∨ (sdu.length : Int) > c.mtu ∨ t.queue.length + (segCut sdu c.mps).length > 24) : txPut c t sdu = (t, false) := by
 unfold txPut
 split
 ·rfl
 ·rw [if_pos (by rename_i g; simp only [not_or] at g; rcases k with k | k | k; exact absurd k g.1; exact absurd k g.2; exact k)]
theorem txPut_good {c : Cfg} {t : Tx} {sdu : List Int} (h1 : t.dead = false) (h2 : (sdu.length : Int) ≤ c.mtu) (h3 : t.queue.length + (segCut sdu c.mps).length ≤ 24) : txPut c t sdu = ({ t with queue := t.queue ++ segCut sdu c.mps }, true) := by
 unfold txPut
 rw [if_neg (by simp [h1]; omega), if_neg (by omega)]
theorem l6put (c : Cfg) (t : Tx) (sdu : List Int) (A B : Option Addr) (a b : Nat) (ds : List Value) (v : Value) (z : Zc) (hv : By z sdu v) (hs : sdu.length ≤ 100000) (hc : -100000 ≤ c.mps ∧ c.mps ≤ 100000) (hq : t.queue.length ≤ 1000000) (hd : Els pRep z t.queue ds) (hb : t.queue.length ≤ b) :
  Spec Tryz.prog 117 [vCfg c, vTx t (.slice A t.flight.length a) (.slice B t.queue.length b), v] z (rowA tyP 3 (.slice B t.queue.length b) t.queue.length ds) fun u z' A' => ∃ B' b' ds', u = .tuple #[vTx (txPut c t sdu).1 (.slice A t.flight.length a) (.slice B' (txPut c t sdu).1.queue.length b'), .bool (txPut c t sdu).2] ∧ A' = rowA tyP 3 (.slice B' (txPut c t sdu).1.queue.length b') (txPut c t sdu).1.queue.length ds' ∧ (txPut c t sdu).1.queue.length ≤ b' ∧ Els pRep z' (txPut c t sdu).1.queue ds' := by
 obtain ⟨Av, kv, rfl, hkv, hBv, hrv⟩ := hv.form
 refine eB k117 ?_
 refine gO ?_
 refine tT ?_; refine callP (segCut_s sdu c.mps _ z hv hs (by omega)) rfl rfl ?_; rintro u z3 hz3 ⟨A3, k3, cs3, rfl, hk3, he3, hr3⟩; refine gO ?_
 have h24 := segCut_length sdu c.mps
 have w1 : IntKind.i64.wrap ((t.queue.length : Int) + ((segCut sdu c.mps).length : Int)) = ((t.queue.length + (segCut sdu c.mps).length : Nat) : Int) := by rw [wrap_in (by omega) (by omega)]; omega
 (try simp only [seval, go_sem]); repeat' (first | (with_reducible refine vsI.id ?_; (try simp only [seval, go_sem])) | (with_reducible refine vcI_cond ?_; (try simp only [seval, go_sem])) | (with_reducible refine guardR.split (fun hg => ?_) (fun hg => ?_) <;> (try simp only [hg]) <;> simp only [seval, go_sem]) | (with_reducible refine condI.split (fun hg => ?_) (fun hg => ?_) <;> (try simp only [hg]) <;> (try simp only [seval, go_sem])) | (with_reducible refine callM.toT ?_))
 ·refine fQ ?_
  rw [txPut_same (.inl hg)]
  exact ⟨_, _, _, by simp only [vTx, hg], rfl, hb, hd.mono hz3⟩
 ·refine fQ ?_
  rw [txPut_same (.inr (.inl (by simpa using hg)))]
  rename_i hdead
  exact ⟨_, _, _, by simp only [vTx, hdead], rfl, hb, hd.mono hz3⟩
 ·refine fQ ?_
  rw [w1] at hg
  rw [txPut_same (.inr (.inr (by simp at hg; omega)))]
  rename_i hdead _
  exact ⟨_, _, _, by simp only [vTx, hdead], rfl, hb, hd.mono hz3⟩
 ·rw [w1] at hg
  rename_i hdead hmtu
  have hl3 : cs3.length = (segCut sdu c.mps).length * 3 := he3.length
  refine aT ?_; (refine appM_rowF 1000 atyP rfl rfl rfl rfl hr3 (by first | omega | simp) (he3.one) (by omega) (fun A5 c5 hc5 => ?_)); refine gO ?_
  refine fQ ?_
  rw [txPut_good hdead (by simpa using hmtu) (by simp at hg; omega)]
  exact ⟨A5, c5, _, by simp only [vTx, hdead, List.length_append], by rw [List.length_append], by rw [List.length_append]; exact hc5, (hd.mono hz3).append he3⟩
theorem Sl.of_drop {α : Type} {d : Rep α} {z : Zc} {xs : List α} {A : Option Addr} {c : Nat} (h : Sl d z xs (.slice A xs.length c)) (k : Nat) : Sl d z (xs.drop k) (.slice (cutA A c k d.sz) (xs.length - k) (c - k)) := h.drop (k := k)
def txAcked (t : Tx) (ack : Int) : Tx := if far t.acked ack > t.flight.length then { t with dead := true } else { t with flight := t.flight.drop (far t.acked ack).toNat, acked := ack, count := t.count + far t.acked ack, sent := max 0 (t.sent - far t.acked ack) }
theorem l6acked (t : Tx) (ack : Int) (A B : Option Addr) (m a b : Nat) (cs : List Value) (z : Zc) (hk : 0 ≤ t.acked ∧ t.acked ≤ 7) (hk2 : 0 ≤ ack ∧ ack ≤ 7) (hs : 0 ≤ t.sent ∧ t.sent ≤ 1000) (hn : 0 ≤ t.count ∧ t.count ≤ 1000000) (hf : t.flight.length ≤ 1000) (hp : ∀ p ∈ t.flight, p.data.length ≤ 1000000000) (he : Els pRep z t.flight cs) (ha : t.flight.length ≤ a) :
  Spec Tryz.prog 177 [vTx t (.slice A t.flight.length a) (.slice B m b), .int .i64 ack] z (rowA tyP 3 (.slice A t.flight.length a) t.flight.length cs) fun u z' A' => ∃ A2 a2 cs2, u = vTx (txAcked t ack) (.slice A2 (txAcked t ack).flight.length a2) (.slice B m b) ∧ A' = rowA tyP 3 (.slice A2 (txAcked t ack).flight.length a2) (txAcked t ack).flight.length cs2 ∧ (txAcked t ack).flight.length ≤ a2 ∧ Els pRep z' (txAcked t ack).flight cs2 := by
 refine eB k177 ?_
 have hnf : numFar t.acked ack = far t.acked ack := by unfold numFar isNum; rw [if_pos (by simp [inB_iff]; omega)]
 have hfl := far_lt t.acked ack
 refine gO ?_
 refine tT ?_; refine callP (numfar_s t.acked ack z) rfl rfl ?_; rintro _ _ - ⟨rfl, rfl⟩; refine gO ?_
 rw [hnf]
 (with_reducible refine condI.split (fun hg => ?_) (fun hg => ?_) <;> (try simp only [hg]) <;> (try simp only [seval, go_sem]))
 ·refine gO ?_
  refine fQ ?_
  rw [show txAcked t ack = { t with dead := true } by unfold txAcked; rw [if_pos (by simpa using hg)]]
  exact ⟨_, _, _, rfl, rfl, ha, he⟩
 ·obtain ⟨k, hk'⟩ := Int.eq_ofNat_of_zero_le hfl.1
  have hkn : k ≤ t.flight.length := by simp [hk'] at hg; omega
  rw [show txAcked t ack = { t with flight := t.flight.drop k, acked := ack, count := t.count + k, sent := max 0 (t.sent - k) } by unfold txAcked; rw [if_neg (by rw [hk']; omega), hk']; rfl]
  simp only [hk']
  (refine vsI.frzR 1000 rfl rfl (fun A4 c4 z4 hv4 hc4 hz4 hr4 => ?_)); (first | subst hv4 | (injection hv4 with hv_1 hv_2 hv_3; subst hv_1; subst hv_3)); refine gO ?_
  refine ⟨by omega, ?_⟩; refine gO ?_
  have hdr := Sl.of_drop (⟨A, a, _, rfl, ha, he.mono hz4, hr4⟩ : Sl pRep z4 t.flight (.slice A t.flight.length a)) k
  have hdl : (t.flight.drop k).length = t.flight.length - k := by simp
  refine tT ?_; refine callO 90 (l6list_s (t.flight.drop k) _ z4 hdr (by omega) (fun p hp' => hp p (List.mem_of_mem_drop hp'))) rfl rfl rfl ?_; rintro u z5 A' hz5 ⟨A5, k5, cs5, rfl, rfl, hk5, he5⟩; refine gO ?_
  (((try simp only [seval, go_sem]);repeat((with_reducible first|refine vJ ?_|refine vK ?_);try simp only [seval, go_sem])); refine FinV.own 90 rfl ?_; simp only [finE, finS, gt, look, SV.toV, SC.toV, allV, tupV, zq1, zq2, zq3, zq4, Nat.reduceAdd, Nat.reduceEqDiff, reduceCtorEq, if_true, if_false, reduceIte, Nat.succ_ne_self, true_and, zq5, zq7, zq8])
  have w1 : IntKind.i64.wrap (t.sent - (k : Int)) = t.sent - k := wrap_in (by omega) (by omega)
  have w2 : IntKind.i64.wrap (t.count + (k : Int)) = t.count + k := wrap_in (by omega) (by omega)
  have w3 : (if t.sent - (k : Int) > 0 then t.sent - (k : Int) else 0) = max 0 (t.sent - k) := by split <;> omega
  simp only [w1, w2]
  refine ⟨A5, k5, cs5, ?_, rfl, hk5, he5⟩
  simp only [vTx, ← w3]
theorem txHear_dead {t : Tx} {f : Frm} (h : t.dead = true) : txHear t f = t := by unfold txHear; rw [if_pos h]
theorem txHear_end {t : Tx} {f : Frm} (h : t.dead = false) (k : far t.acked f.ack > t.flight.length) : txHear t f = { t with dead := true } := by unfold txHear; rw [if_neg (by simp [h]), if_pos k]
theorem txHear_go {t : Tx} {f : Frm} (h : t.dead = false) (k : ¬ far t.acked f.ack > t.flight.length) : txHear t f = ⟨t.next, f.ack, t.flight.drop (far t.acked f.ack).toNat, if f.fin && t.asks then 0 else if f.kind = 2 ∧ f.say = 1 ∧ t.asks = false then 0 else max 0 (t.sent - far t.acked f.ack), t.queue, t.asks && !f.fin, if f.fin && t.asks then 0 else t.tries, if f.kind = 2 then decide (f.say = 2) else t.held, t.count + far t.acked f.ack, false⟩ := by
 unfold txHear; rw [if_neg (by simp [h]), if_neg k]; simp only [h]
theorem txAcked_go {t : Tx} {ack : Int} (h : t.dead = false) (k : ¬ far t.acked ack > t.flight.length) : txAcked t ack = ⟨t.next, ack, t.flight.drop (far t.acked ack).toNat, max 0 (t.sent - far t.acked ack), t.queue, t.asks, t.tries, t.held, t.count + far t.acked ack, false⟩ := by
 unfold txAcked; rw [if_neg k]; simp only [h]
theorem txAcked_end {t : Tx} {ack : Int} (k : far t.acked ack > t.flight.length) : txAcked t ack = { t with dead := true } := by unfold txAcked; rw [if_pos k]
theorem l6hear (t : Tx) (f : Frm) (A B : Option Addr) (m a b : Nat) (cs : List Value) (x : Value) (z : Zc) (hx : By z f.data x) (hk : 0 ≤ t.acked ∧ t.acked ≤ 7) (hk2 : 0 ≤ f.ack ∧ f.ack ≤ 7) (hs : 0 ≤ t.sent ∧ t.sent ≤ 1000) (hn : 0 ≤ t.count ∧ t.count ≤ 1000000) (hf : t.flight.length ≤ 1000) (hp : ∀ p ∈ t.flight, p.data.length ≤ 1000000000) (he : Els pRep z t.flight cs) (ha : t.flight.length ≤ a) :
  Spec Tryz.prog 169 [vTx t (.slice A t.flight.length a) (.slice B m b), vFrm f x] z (rowA tyP 3 (.slice A t.flight.length a) t.flight.length cs) fun u z' A' => ∃ A2 a2 cs2, u = vTx (txHear t f) (.slice A2 (txHear t f).flight.length a2) (.slice B m b) ∧ A' = rowA tyP 3 (.slice A2 (txHear t f).flight.length a2) (txHear t f).flight.length cs2 ∧ (txHear t f).flight.length ≤ a2 ∧ Els pRep z' (txHear t f).flight cs2 := by
 obtain ⟨Ax, kx, rfl, hkx, hBx, hrx⟩ := hx.form
 obtain ⟨next, acked, flight, sent, queue, asks, tries, held, count, dead⟩ := t
 dsimp only at *
 refine eB k169 ?_
 refine gO ?_
 cases dead with
 | true =>
  simp only [seval, go_sem]
  refine gO ?_
  refine fQ ?_
  rw [txHear_dead rfl]
  exact ⟨_, _, _, rfl, rfl, ha, he⟩
 | false =>
  simp only [seval, go_sem]
  refine gO ?_
  have hc := l6acked ⟨next, acked, flight, sent, queue, asks, tries, held, count, false⟩ f.ack A B m a b cs z hk hk2 hs hn hf hp he ha
  by_cases hfar : far acked f.ack > flight.length
  ·rw [txAcked_end hfar] at hc
   refine tT ?_; refine callW 1000 (hc) rfl rfl rfl rfl ?_; rintro u z1 A' hz1 ⟨A2, a2, cs2, rfl, rfl, ha2, he2⟩; refine gO ?_
   refine fQ ?_
   rw [txHear_end rfl hfar]
   exact ⟨_, _, _, rfl, rfl, ha2, he2⟩
  ·rw [txAcked_go rfl hfar] at hc
   rw [txHear_go rfl hfar]
   refine tT ?_; refine callW 1000 (hc) rfl rfl rfl rfl ?_; rintro u z1 A' hz1 ⟨A2, a2, cs2, rfl, rfl, ha2, he2⟩; refine gO ?_
   (try simp only [seval, go_sem]); repeat' (first | (with_reducible refine vsI.id ?_; (try simp only [seval, go_sem])) | (with_reducible refine vcI_cond ?_; (try simp only [seval, go_sem])) | (with_reducible refine guardR.split (fun hg => ?_) (fun hg => ?_) <;> (try simp only [hg]) <;> simp only [seval, go_sem]) | (with_reducible refine condI.split (fun hg => ?_) (fun hg => ?_) <;> (try simp only [hg]) <;> (try simp only [seval, go_sem])) | (with_reducible refine callM.toT ?_))
   all_goals refine fQ ?_
   all_goals refine ⟨A2, a2, cs2, ?_, rfl, ha2, he2⟩
   all_goals clear hc hx hrx he he2 hp
   all_goals simp only [vTx]
   all_goals simp_all
   all_goals rfl
theorem l7say (r : Rx) (q : Value) (fin : Bool) (z : Zc) (h : By z r.join.got q) : PSpec Tryz.prog 125 [vRx r q, .bool fin] z fun u z' => u = vFrm (sayFrm r.expect false fin (goWait r.busy)) (.slice none 0 0) ∧ z = z' := by
 obtain ⟨A, k, rfl, hk, hB, hr⟩ := h.form
 refine eP k125 ?_
 refine gO ?_
 (with_reducible refine condI.split (fun hg => ?_) (fun hg => ?_) <;> (try simp only [hg]) <;> (try simp only [seval, go_sem]))
 ·refine gO ?_
  (first|refine fN ?_|exact fZ)
  simp [sayFrm, goWait, hg]
 ·refine gO ?_
  (first|refine fN ?_|exact fZ)
  simp [sayFrm, goWait, hg]
theorem l7copy (r : Rx) (q : Value) (z : Zc) (h : By z r.join.got q) (hl : r.join.got.length ≤ 1000000000) : PSpec Tryz.prog 95 [vRx r q] z fun u z' => ∃ A c, u = vRx r (.slice A r.join.got.length c) ∧ By z' r.join.got (.slice A r.join.got.length c) := by
 obtain ⟨A, k, rfl, hk, hB, hr⟩ := h.form
 refine eP k95 ?_
 refine gO ?_
 refine aT ?_; (refine appM_empty 99 atyB rfl (by first | exact .inl ⟨_, rfl⟩ | exact .inr ⟨_, _, rfl⟩) rfl hr (by first | omega | (simp <;> omega)) (bc_one _) (by omega) (fun A2 c2 z2 hz2 hc2 hr2 => ?_)); dsimp only at hz2; refine gO ?_
 (first|refine fN ?_|exact fZ)
 exact ⟨_, _, rfl, By.mk hc2 hB hr2⟩
theorem rxok_s (r : Rx) (A : Option Addr) (k : Nat) (z : Zc) (h : r.join.got.length ≤ 1000000000) (hj : -1000000000 ≤ r.join.len) : PSpec Tryz.prog 153 [vRx r (.slice A r.join.got.length k)] z fun u z' => u = .bool (rxOk r) ∧ z = z' := by
 refine eP k153 ?_
 (try simp only [seval, go_sem]); repeat' (first | (with_reducible refine vsI.id ?_; (try simp only [seval, go_sem])) | (with_reducible refine vcI_cond ?_; (try simp only [seval, go_sem])) | (with_reducible refine guardR.split (fun hg => ?_) (fun hg => ?_) <;> (try simp only [hg]) <;> simp only [seval, go_sem]) | (with_reducible refine condI.split (fun hg => ?_) (fun hg => ?_) <;> (try simp only [hg]) <;> (try simp only [seval, go_sem])) | (with_reducible refine callM.toT ?_) | (refine callP (in_s _ _ _ _) rfl rfl ?_; rintro _ _ - ⟨rfl, rfl⟩; (try simp only [seval, go_sem])) | (refine callP (joinok_s r.join A k _ h hj) rfl rfl ?_; rintro _ _ - ⟨rfl, rfl⟩; (try simp only [seval, go_sem])))
 all_goals (try (refine tT ?_; refine callP (numof_s r.count z (by simp only [inB_iff] at *; omega)) rfl rfl ?_; rintro _ _ - ⟨rfl, rfl⟩; (try simp only [seval, go_sem]); repeat' (first | (with_reducible refine vsI.id ?_; (try simp only [seval, go_sem])) | (with_reducible refine vcI_cond ?_; (try simp only [seval, go_sem])) | (with_reducible refine guardR.split (fun hg => ?_) (fun hg => ?_) <;> (try simp only [hg]) <;> simp only [seval, go_sem]) | (with_reducible refine condI.split (fun hg => ?_) (fun hg => ?_) <;> (try simp only [hg]) <;> (try simp only [seval, go_sem])) | (with_reducible refine callM.toT ?_) | (refine callP (joinok_s r.join A k _ h hj) rfl rfl ?_; rintro _ _ - ⟨rfl, rfl⟩; (try simp only [seval, go_sem]))))); refine gO ?_
 all_goals ((first|refine fN ?_|exact fZ); (try simp only [inB_iff, inB_no, isNum_iff, beq_iff_eq, decide_eq_true_eq, decide_eq_false_iff_not, beq_eq_false_iff_ne, bne_iff_ne, bne_eq_false_iff_eq, Bool.not_eq_true', Bool.not_eq_false', and_true] at *); (try simp (disch := omega) only [wrap_in, Int.tmod_eq_emod_of_nonneg] at *); (try simp only [and_true]); first | rfl | (simp_all [rxOk, isNum]; done) | (refine congrArg Value.bool (Bool.eq_iff_iff.2 ?_); simp [*, rxOk, isNum, inB_iff]; done) | (refine congrArg Value.bool (Bool.eq_iff_iff.2 ?_); simp [*, rxOk, isNum, inB_iff]; omega) | (simp_all [rxOk, isNum]; omega))
theorem rxTake_end {c : Cfg} {r : Rx} {f : Frm} (k : f.len > c.mtu ∨ (f.data.length : Int) > c.mps ∨ r.count = 9999) : rxTake c r f = ({ r with dead := true }, []) := by unfold rxTake; rw [if_pos k]
theorem rxTake_bad {c : Cfg} {r : Rx} {f : Frm} (k : ¬ (f.len > c.mtu ∨ (f.data.length : Int) > c.mps ∨ r.count = 9999)) (h : (segPut r.join ⟨f.seg, f.len, f.data⟩).2.2 = 3) : rxTake c r f = ({ r with join := (segPut r.join ⟨f.seg, f.len, f.data⟩).1, dead := true }, []) := by unfold rxTake; rw [if_neg k]; simp only; rw [if_pos h]
theorem rxTake_yes {c : Cfg} {r : Rx} {f : Frm} (k : ¬ (f.len > c.mtu ∨ (f.data.length : Int) > c.mps ∨ r.count = 9999)) (h : (segPut r.join ⟨f.seg, f.len, f.data⟩).2.2 ≠ 3) : rxTake c r f = ({ r with join := (segPut r.join ⟨f.seg, f.len, f.data⟩).1, expect := numNext r.expect, count := r.count + 1, again := false }, if (segPut r.join ⟨f.seg, f.len, f.data⟩).2.2 = 2 then [(segPut r.join ⟨f.seg, f.len, f.data⟩).2.1] else []) := by unfold rxTake; rw [if_neg k]; simp only; rw [if_neg h]
theorem l7take (c : Cfg) (r : Rx) (f : Frm) (q u : Value) (z : Zc) (hq : By z r.join.got q) (hu : By z f.data u) (hI : RxI r) (hp : pieceOk f.seg f.len f.data.length = true) :
  PSpec Tryz.prog 181 [vCfg c, vRx r q, vFrm f u] z fun v z' => ∃ A k B n b, v = .tuple #[vRx (rxTake c r f).1 (.slice A (rxTake c r f).1.join.got.length k), .slice B n b] ∧ By z' (rxTake c r f).1.join.got (.slice A (rxTake c r f).1.join.got.length k) ∧ Sl sduRep z' (rxTake c r f).2 (.slice B n b) := by
 obtain ⟨A, k, rfl, hk, hB, hr⟩ := hq.form
 obtain ⟨A2, k2, rfl, hk2, hB2, hr2⟩ := hu.form
 have hpb := pieceOk_bound hp
 have hj23 := hI.join.le
 have hjl : 0 ≤ r.join.len := by rcases hI.join with h | h <;> omega
 have hex := hI.expect
 have hct := hI.count
 have w1 : IntKind.i64.wrap (r.count + 1) = r.count + 1 := wrap_in (by omega) (by omega)
 refine eP k181 ?_
 (try simp only [seval, go_sem]); repeat' (first | (with_reducible refine vsI.id ?_; (try simp only [seval, go_sem])) | (with_reducible refine vcI_cond ?_; (try simp only [seval, go_sem])) | (with_reducible refine guardR.split (fun hg => ?_) (fun hg => ?_) <;> (try simp only [hg]) <;> simp only [seval, go_sem]) | (with_reducible refine condI.split (fun hg => ?_) (fun hg => ?_) <;> (try simp only [hg]) <;> (try simp only [seval, go_sem])) | (with_reducible refine callM.toT ?_))
 ·(refine FinV.frz 5 rfl rfl (fun b4 z4 hz4 hr4 => ?_)); dsimp only at hz4; simp only [seval, go_sem, Go.Proofs.YtllafcmkppmdgaaGreat.frz, subV, subC, subE, subL]
  (first|refine fN ?_|exact fZ)
  rw [rxTake_end (.inl (by simpa using hg))]
  exact ⟨_, _, _, _, _, rfl, hq.mono hz4, Sl.nil _ _ _⟩
 ·(refine FinV.frz 5 rfl rfl (fun b4 z4 hz4 hr4 => ?_)); dsimp only at hz4; simp only [seval, go_sem, Go.Proofs.YtllafcmkppmdgaaGreat.frz, subV, subC, subE, subL]
  (first|refine fN ?_|exact fZ)
  rw [rxTake_end (.inr (.inl (by simpa using hg)))]
  exact ⟨_, _, _, _, _, rfl, hq.mono hz4, Sl.nil _ _ _⟩
 ·(refine FinV.frz 5 rfl rfl (fun b4 z4 hz4 hr4 => ?_)); dsimp only at hz4; simp only [seval, go_sem, Go.Proofs.YtllafcmkppmdgaaGreat.frz, subV, subC, subE, subL]
  (first|refine fN ?_|exact fZ)
  rw [rxTake_end (.inr (.inr (by simpa using hg)))]
  exact ⟨_, _, _, _, _, rfl, hq.mono hz4, Sl.nil _ _ _⟩
 ·rename_i h0 h1
  have hno : ¬ (f.len > c.mtu ∨ (f.data.length : Int) > c.mps ∨ r.count = 9999) := by simp at h0 h1 hg; omega
  refine tT ?_; refine callP (puts r.join ⟨f.seg, f.len, f.data⟩ _ _ z hq hu (by omega) (by show f.data.length ≤ _; omega) hjl (by show 0 ≤ f.seg ∧ f.seg ≤ 3; omega)) rfl rfl ?_; rintro v z3 hz3 ⟨A4, k4, A5, k5, rfl, h4, h5⟩; refine gO ?_
  (with_reducible refine condI.split (fun hg => ?_) (fun hg => ?_) <;> (try simp only [hg]) <;> (try simp only [seval, go_sem]))
  ·refine gO ?_
   (refine FinV.frz 6 rfl rfl (fun b4 z4 hz4 hr4 => ?_)); dsimp only at hz4; simp only [seval, go_sem, Go.Proofs.YtllafcmkppmdgaaGreat.frz, subV, subC, subE, subL]
   (first|refine fN ?_|exact fZ)
   rw [rxTake_bad hno (by simpa using hg)]
   exact ⟨_, _, _, _, _, rfl, h4.mono hz4, Sl.nil _ _ _⟩
  ·have h3 : (segPut r.join ⟨f.seg, f.len, f.data⟩).2.2 ≠ 3 := by simpa using hg
   refine gO ?_
   refine tT ?_; refine callP (numnext_s r.expect z3 (by omega)) rfl rfl ?_; rintro _ _ - ⟨rfl, rfl⟩; refine gO ?_
   simp only [w1]
   (with_reducible refine condI.split (fun hg => ?_) (fun hg => ?_) <;> (try simp only [hg]) <;> (try simp only [seval, go_sem]))
   ·refine gO ?_
    (refine FinV.frz 6 rfl rfl (fun b4 z4 hz4 hr4 => ?_)); dsimp only at hz4; simp only [seval, go_sem, Go.Proofs.YtllafcmkppmdgaaGreat.frz, subV, subC, subE, subL]
    (first|refine fN ?_|exact fZ)
    rw [rxTake_yes hno h3, if_pos (by simpa using hg)]
    exact ⟨_, _, _, _, _, rfl, h4.mono hz4, _, _, _, rfl, Nat.le_refl _, Els.single (d := sduRep) ⟨_, rfl, h5.mono hz4⟩, hr4⟩
   ·refine gO ?_
    (refine FinV.frz 6 rfl rfl (fun b4 z4 hz4 hr4 => ?_)); dsimp only at hz4; simp only [seval, go_sem, Go.Proofs.YtllafcmkppmdgaaGreat.frz, subV, subC, subE, subL]
    (first|refine fN ?_|exact fZ)
    rw [rxTake_yes hno h3, if_neg (by simpa using hg)]
    exact ⟨_, _, _, _, _, rfl, h4.mono hz4, Sl.nil _ _ _⟩
def HearV (z : Zc) (x : Rx × List (List Int) × List Frm) (v : Value) : Prop := ∃ A k B n b D m d, v = .tuple #[vRx x.1 (.slice A x.1.join.got.length k), .slice B n b, .slice D m d] ∧ By z x.1.join.got (.slice A x.1.join.got.length k) ∧ Sl sduRep z x.2.1 (.slice B n b) ∧ Sl fRep z x.2.2 (.slice D m d)
def rxData (c : Cfg) (r : Rx) (f : Frm) : Rx × List (List Int) × List Frm :=
 if r.busy = true then (r, [], [sayFrm r.expect false false 2])
 else if f.seq = r.expect then ((rxTake c r f).1, (rxTake c r f).2, [])
 else if far r.expect f.seq < c.win ∧ r.again = false then ({ r with again := true }, [], [sayFrm r.expect false false 1])
 else (r, [], [])
theorem l7data (c : Cfg) (r : Rx) (f : Frm) (q u : Value) (z : Zc) (hq : By z r.join.got q) (hu : By z f.data u) (hI : RxI r) (hp : pieceOk f.seg f.len f.data.length = true) (hs : 0 ≤ f.seq ∧ f.seq ≤ 7) :
  PSpec Tryz.prog 178 [vCfg c, vRx r q, vFrm f u] z fun v z' => HearV z' (rxData c r f) v := by
 obtain ⟨A, k, rfl, hk, hB, hr⟩ := hq.form
 obtain ⟨A2, k2, rfl, hk2, hB2, hr2⟩ := hu.form
 have hex := hI.expect
 have hnf : numFar r.expect f.seq = far r.expect f.seq := by unfold numFar isNum; rw [if_pos (by simp [inB_iff]; omega)]
 have hfar : far r.expect f.seq = 0 ↔ f.seq = r.expect := by unfold far; omega
 obtain ⟨expect, count, join, again, busy, dead⟩ := r
 dsimp only at *
 refine eP k178 ?_
 refine gO ?_
 cases busy with
 | true =>
  simp only [seval, go_sem]
  refine gO ?_
  (with_reducible refine joinV.id ?_; simp only [seval, go_sem])
  ((try simp only [seval, go_sem]); repeat' (first | (refine And.intro ?_ ?_ <;> (try simp only [seval, go_sem])) | (with_reducible refine vsI.id ?_; (try simp only [seval, go_sem])) | (with_reducible refine callM.toT ?_) | (refine callP (l7say ⟨expect, count, join, again, true, dead⟩ _ false z hq) rfl rfl ?_; rintro _ _ - ⟨rfl, rfl⟩; (try simp only [seval, go_sem]))))
  all_goals (refine FinV.frz 4 rfl rfl (fun b4 z4 hz4 hr4 => ?_)); dsimp only at hz4; simp only [seval, go_sem, Go.Proofs.YtllafcmkppmdgaaGreat.frz, subV, subC, subE, subL]
  all_goals (refine FinV.frz 5 rfl rfl (fun b5 z5 hz5 hr5 => ?_)); dsimp only at hz5; simp only [seval, go_sem, Go.Proofs.YtllafcmkppmdgaaGreat.frz, subV, subC, subE, subL]
  all_goals (first|refine fN ?_|exact fZ)
  all_goals rw [show rxData c ⟨expect, count, join, again, true, dead⟩ f = (⟨expect, count, join, again, true, dead⟩, [], [sayFrm expect false false 2]) by unfold rxData; rw [if_pos rfl]]
  all_goals exact ⟨A, k, _, _, _, _, _, _, rfl, hq.mono (Zc.trans' hz4 hz5), Sl.nil _ _ _, _, _, _, rfl, Nat.le_refl _, Els.single (d := fRep) ⟨_, rfl, Sl.nil _ _ _⟩, by first | exact hr5 | exact hr4.mono hz5⟩
 | false =>
  simp only [seval, go_sem]
  refine gO ?_
  refine tT ?_; refine callP (numfar_s expect f.seq z) rfl rfl ?_; rintro _ _ - ⟨rfl, rfl⟩; refine gO ?_
  rw [hnf]
  (with_reducible refine condI.split (fun hg => ?_) (fun hg => ?_) <;> (try simp only [hg]) <;> (try simp only [seval, go_sem]))
  ·have hseq := hfar.1 (by simpa using hg)
   refine gO ?_
   refine tT ?_; refine callP (l7take c ⟨expect, count, join, again, false, dead⟩ f _ _ z hq hu hI hp) rfl rfl ?_; rintro v z3 hz3 ⟨A4, k4, A5, n5, k5, rfl, h4, h5⟩; refine gO ?_
   (refine FinV.frz 5 rfl rfl (fun b4 z4 hz4 hr4 => ?_)); dsimp only at hz4; simp only [seval, go_sem, Go.Proofs.YtllafcmkppmdgaaGreat.frz, subV, subC, subE, subL]
   (first|refine fN ?_|exact fZ)
   rw [show rxData c ⟨expect, count, join, again, false, dead⟩ f = ((rxTake c ⟨expect, count, join, again, false, dead⟩ f).1, (rxTake c ⟨expect, count, join, again, false, dead⟩ f).2, []) by unfold rxData; rw [if_neg (by simp), if_pos hseq]]
   exact ⟨_, _, _, _, _, _, _, _, rfl, h4.mono hz4, h5.mono hz4, Sl.nil _ _ _⟩
  ·have hne : f.seq ≠ expect := fun h => by rw [hfar.2 h] at hg; simp at hg
   refine gO ?_
   (with_reducible refine guardR.split (fun hg => ?_) (fun hg => ?_) <;> (try simp only [hg]) <;> simp only [seval, go_sem])
   ·have hw : far expect f.seq < c.win := by simpa using hg
    refine gO ?_
    cases again with
    | true =>
     simp only [seval, go_sem]
     refine gO ?_
     (refine FinV.frz 4 rfl rfl (fun b4 z4 hz4 hr4 => ?_)); dsimp only at hz4; simp only [seval, go_sem, Go.Proofs.YtllafcmkppmdgaaGreat.frz, subV, subC, subE, subL]
     (refine FinV.frz 5 rfl rfl (fun b5 z5 hz5 hr5 => ?_)); dsimp only at hz5; simp only [seval, go_sem, Go.Proofs.YtllafcmkppmdgaaGreat.frz, subV, subC, subE, subL]
     (first|refine fN ?_|exact fZ)
     rw [show rxData c ⟨expect, count, join, true, false, dead⟩ f = (⟨expect, count, join, true, false, dead⟩, [], []) by unfold rxData; rw [if_neg (by simp), if_neg hne, if_neg (by simp)]]
     exact ⟨A, k, _, _, _, _, _, _, rfl, hq.mono (Zc.trans' hz4 hz5), Sl.nil _ _ _, Sl.nil _ _ _⟩
    | false =>
     simp only [seval, go_sem]
     refine gO ?_
     (with_reducible refine joinV.id ?_; simp only [seval, go_sem])
     ((try simp only [seval, go_sem]); repeat' (first | (refine And.intro ?_ ?_ <;> (try simp only [seval, go_sem])) | (with_reducible refine vsI.id ?_; (try simp only [seval, go_sem])) | (with_reducible refine callM.toT ?_)))
     all_goals (refine FinV.frz 4 rfl rfl (fun b4 z4 hz4 hr4 => ?_)); dsimp only at hz4; simp only [seval, go_sem, Go.Proofs.YtllafcmkppmdgaaGreat.frz, subV, subC, subE, subL]
     all_goals (refine FinV.frz 5 rfl rfl (fun b5 z5 hz5 hr5 => ?_)); dsimp only at hz5; simp only [seval, go_sem, Go.Proofs.YtllafcmkppmdgaaGreat.frz, subV, subC, subE, subL]
     all_goals (first|refine fN ?_|exact fZ)
     all_goals rw [show rxData c ⟨expect, count, join, false, false, dead⟩ f = (⟨expect, count, join, true, false, dead⟩, [], [sayFrm expect false false 1]) by unfold rxData; rw [if_neg (by simp), if_neg hne, if_pos ⟨hw, rfl⟩]]
     all_goals exact ⟨A, k, _, _, _, _, _, _, rfl, hq.mono (Zc.trans' hz4 hz5), Sl.nil _ _ _, _, _, _, rfl, Nat.le_refl _, Els.single (d := fRep) ⟨_, rfl, Sl.nil _ _ _⟩, by first | exact hr5 | exact hr4.mono hz5⟩
   ·refine gO ?_
    (refine FinV.frz 4 rfl rfl (fun b4 z4 hz4 hr4 => ?_)); dsimp only at hz4; simp only [seval, go_sem, Go.Proofs.YtllafcmkppmdgaaGreat.frz, subV, subC, subE, subL]
    (refine FinV.frz 5 rfl rfl (fun b5 z5 hz5 hr5 => ?_)); dsimp only at hz5; simp only [seval, go_sem, Go.Proofs.YtllafcmkppmdgaaGreat.frz, subV, subC, subE, subL]
    (first|refine fN ?_|exact fZ)
    rw [show rxData c ⟨expect, count, join, again, false, dead⟩ f = (⟨expect, count, join, again, false, dead⟩, [], []) by unfold rxData; rw [if_neg (by simp), if_neg hne, if_neg (by simp at hg ⊢; intro h; omega)]]
    exact ⟨A, k, _, _, _, _, _, _, rfl, hq.mono (Zc.trans' hz4 hz5), Sl.nil _ _ _, Sl.nil _ _ _⟩
theorem frm1 {f : Frm} (h : frmOk f = true) (hk : f.kind = 1) : pieceOk f.seg f.len f.data.length = true ∧ 0 ≤ f.seq ∧ f.seq ≤ 7 := by
 unfold frmOk at h
 rw [if_pos hk] at h
 simp only [Bool.and_eq_true, isNum_iff] at h
 exact ⟨h.2, h.1.1.1.1⟩
theorem l7hear (c : Cfg) (r : Rx) (f : Frm) (q u : Value) (z : Zc) (hq : By z r.join.got q) (hu : By z f.data u) (hI : RxI r) (hf : frmOk f = true) (hk : f.kind = 1 ∨ f.kind = 2) :
  PSpec Tryz.prog 170 [vCfg c, vRx r q, vFrm f u] z fun v z' => HearV z' (rxHear c r f) v := by
 obtain ⟨A, k, rfl, hk', hB, hr⟩ := hq.form
 obtain ⟨A2, k2, rfl, hk2, hB2, hr2⟩ := hu.form
 obtain ⟨expect, count, join, again, busy, dead⟩ := r
 dsimp only at *
 refine eP k170 ?_
 refine gO ?_
 cases dead with
 | true =>
  simp only [seval, go_sem]
  refine gO ?_
  (refine FinV.frz 4 rfl rfl (fun b4 z4 hz4 hr4 => ?_)); dsimp only at hz4; simp only [seval, go_sem, Go.Proofs.YtllafcmkppmdgaaGreat.frz, subV, subC, subE, subL]
  (refine FinV.frz 5 rfl rfl (fun b5 z5 hz5 hr5 => ?_)); dsimp only at hz5; simp only [seval, go_sem, Go.Proofs.YtllafcmkppmdgaaGreat.frz, subV, subC, subE, subL]
  (first|refine fN ?_|exact fZ)
  rw [show rxHear c ⟨expect, count, join, again, busy, true⟩ f = (⟨expect, count, join, again, busy, true⟩, [], []) by unfold rxHear; rw [if_pos rfl]]
  exact ⟨A, k, _, _, _, _, _, _, rfl, hq.mono (Zc.trans' hz4 hz5), Sl.nil _ _ _, Sl.nil _ _ _⟩
 | false =>
  simp only [seval, go_sem]
  refine gO ?_
  (with_reducible refine condI.split (fun hg => ?_) (fun hg => ?_) <;> (try simp only [hg]) <;> (try simp only [seval, go_sem]))
  ·have h1 : f.kind = 1 := by simpa using hg
   obtain ⟨hp, hs⟩ := frm1 hf h1
   refine gO ?_
   refine tT ?_; refine callP (l7data c ⟨expect, count, join, again, busy, false⟩ f _ _ z hq hu hI hp hs) rfl rfl ?_; rintro v z3 hz3 ⟨A3, k3, B3, n3, b3, D3, m3, d3, rfl, g1, g2, g3⟩; refine gO ?_
   (first|refine fN ?_|exact fZ)
   rw [show rxHear c ⟨expect, count, join, again, busy, false⟩ f = rxData c ⟨expect, count, join, again, busy, false⟩ f by unfold rxHear rxData; rw [if_neg (by simp), if_neg (by omega)]]
   exact ⟨_, _, _, _, _, _, _, _, rfl, g1, g2, g3⟩
  ·have h1 : f.kind = 2 := by simp at hg; omega
   refine gO ?_
   (with_reducible refine condI.split (fun hg => ?_) (fun hg => ?_) <;> (try simp only [hg]) <;> (try simp only [seval, go_sem]))
   ·have hpoll : f.poll = true := hg
    refine gO ?_
    (with_reducible refine joinV.id ?_; simp only [seval, go_sem])
    ((try simp only [seval, go_sem]); repeat' (first | (refine And.intro ?_ ?_ <;> (try simp only [seval, go_sem])) | (with_reducible refine vsI.id ?_; (try simp only [seval, go_sem])) | (with_reducible refine callM.toT ?_) | (refine callP (l7say ⟨expect, count, join, false, busy, false⟩ _ true z hq) rfl rfl ?_; rintro _ _ - ⟨rfl, rfl⟩; (try simp only [seval, go_sem]))))
    all_goals (refine FinV.frz 4 rfl rfl (fun b4 z4 hz4 hr4 => ?_)); dsimp only at hz4; simp only [seval, go_sem, Go.Proofs.YtllafcmkppmdgaaGreat.frz, subV, subC, subE, subL]
    all_goals (refine FinV.frz 5 rfl rfl (fun b5 z5 hz5 hr5 => ?_)); dsimp only at hz5; simp only [seval, go_sem, Go.Proofs.YtllafcmkppmdgaaGreat.frz, subV, subC, subE, subL]
    all_goals (first|refine fN ?_|exact fZ)
    all_goals rw [show rxHear c ⟨expect, count, join, again, busy, false⟩ f = (⟨expect, count, join, false, busy, false⟩, [], [sayFrm expect false true (goWait busy)]) by unfold rxHear; rw [if_neg (by simp), if_pos h1, if_pos hpoll]]
    all_goals exact ⟨A, k, _, _, _, _, _, _, rfl, hq.mono (Zc.trans' hz4 hz5), Sl.nil _ _ _, _, _, _, rfl, Nat.le_refl _, Els.single (d := fRep) ⟨_, rfl, Sl.nil _ _ _⟩, by first | exact hr5 | exact hr4.mono hz5⟩
   ·have hpoll : ¬ f.poll = true := by simp [hg]
    refine gO ?_
    (refine FinV.frz 4 rfl rfl (fun b4 z4 hz4 hr4 => ?_)); dsimp only at hz4; simp only [seval, go_sem, Go.Proofs.YtllafcmkppmdgaaGreat.frz, subV, subC, subE, subL]
    (refine FinV.frz 5 rfl rfl (fun b5 z5 hz5 hr5 => ?_)); dsimp only at hz5; simp only [seval, go_sem, Go.Proofs.YtllafcmkppmdgaaGreat.frz, subV, subC, subE, subL]
    (first|refine fN ?_|exact fZ)
    rw [show rxHear c ⟨expect, count, join, again, busy, false⟩ f = (⟨expect, count, join, again, busy, false⟩, [], []) by unfold rxHear; rw [if_neg (by simp), if_pos h1, if_neg hpoll]]
    exact ⟨A, k, _, _, _, _, _, _, rfl, hq.mono (Zc.trans' hz4 hz5), Sl.nil _ _ _, Sl.nil _ _ _⟩
def rxBusyG (r : Rx) (b : Bool) : Rx × List Frm := if rxOk r = true then rxBusy r b else (rx0, [])
theorem rxbusy_s (r : Rx) (b : Bool) (q : Value) (z : Zc) (hq : By z r.join.got q) (hl : r.join.got.length ≤ 1000000000) (hj : -1000000000 ≤ r.join.len) :
  PSpec Tryz.prog 123 [vRx r q, .bool b] z fun v z' => ∃ A k D m d, v = .tuple #[vRx (rxBusyG r b).1 (.slice A (rxBusyG r b).1.join.got.length k), .slice D m d] ∧ By z' (rxBusyG r b).1.join.got (.slice A (rxBusyG r b).1.join.got.length k) ∧ Sl fRep z' (rxBusyG r b).2 (.slice D m d) := by
 obtain ⟨A, k, rfl, hk', hB, hr⟩ := hq.form
 refine eP k123 ?_
 refine gO ?_
 refine tT ?_; refine callP (rxok_s r A k z hl hj) rfl rfl ?_; rintro _ _ - ⟨rfl, rfl⟩; refine gO ?_
 (with_reducible refine condI.split (fun hg => ?_) (fun hg => ?_) <;> (try simp only [hg]) <;> (try simp only [seval, go_sem]))
 ·refine gO ?_
  (refine FinV.frz 2 rfl rfl (fun b4 z4 hz4 hr4 => ?_)); dsimp only at hz4; simp only [seval, go_sem, Go.Proofs.YtllafcmkppmdgaaGreat.frz, subV, subC, subE, subL]
  (first|refine fN ?_|exact fZ)
  rw [show rxBusyG r b = (rx0, []) by unfold rxBusyG; rw [if_neg (by simpa using hg)]]
  exact ⟨none, 0, _, _, _, rfl, Sl.nil _ _ _, Sl.nil _ _ _⟩
 ·have hok : rxOk r = true := by simpa using hg
  rw [show rxBusyG r b = rxBusy r b by unfold rxBusyG; rw [if_pos hok]]
  refine gO ?_
  refine tT ?_; refine callP (l7copy r _ z hq hl) rfl rfl ?_; rintro v z2 hz2 ⟨A2, k2, rfl, h2⟩; refine gO ?_
  obtain ⟨expect, count, join, again, busy, dead⟩ := r
  dsimp only at *
  cases busy <;> cases b <;> cases dead
  all_goals (try simp only [seval, go_sem, show (true == false) = false from rfl, show (false == true) = false from rfl, show (true == true) = true from rfl, show (false == false) = true from rfl])
  all_goals refine gO ?_
  all_goals (try (with_reducible refine joinV.id ?_; simp only [seval, go_sem]))
  all_goals ((try simp only [seval, go_sem]); repeat' (first | (refine And.intro ?_ ?_ <;> (try simp only [seval, go_sem])) | (with_reducible refine vsI.id ?_; (try simp only [seval, go_sem])) | (with_reducible refine callM.toT ?_) | (refine callP (l7say ⟨expect, count, join, false, false, false⟩ _ false z2 h2) rfl rfl ?_; rintro _ _ - ⟨rfl, rfl⟩; (try simp only [seval, go_sem])) | (refine callP (l7say ⟨expect, count, join, false, true, false⟩ _ false z2 h2) rfl rfl ?_; rintro _ _ - ⟨rfl, rfl⟩; (try simp only [seval, go_sem]))))
  all_goals (refine FinV.frz 3 rfl rfl (fun b4 z4 hz4 hr4 => ?_)); dsimp only at hz4; simp only [seval, go_sem, Go.Proofs.YtllafcmkppmdgaaGreat.frz, subV, subC, subE, subL]
  all_goals (first|refine fN ?_|exact fZ)
  all_goals first
   | exact ⟨A2, k2, some ⟨b4, 0, none⟩, 0, 0, rfl, h2.mono hz4, Sl.nil _ _ _⟩
   | exact ⟨A2, k2, some ⟨b4, 0, none⟩, 1, 1, rfl, h2.mono hz4, _, _, _, rfl, Nat.le_refl _, Els.single (d := fRep) ⟨_, rfl, Sl.nil _ _ _⟩, hr4⟩
abbrev tyB : Nat := 5
def bysA (l : List Int) (A : Option Addr) (c : Nat) : Asrt := if l = [] then emp else rowA tyB 1 (.slice A l.length c) l.length (bc l)
theorem crcPutO (l : List Int) (v : Value) (z : Zc) (h : By z l v) (hl : l.length ≤ 100000000) : Spec Tryz.prog 54 [v] z emp fun v z' A' => ∃ A c, v = .slice A (crcPut l).length c ∧ A' = rowA tyB 1 (.slice A (crcPut l).length c) (crcPut l).length (bc (crcPut l)) ∧ (crcPut l).length ≤ c := by
 obtain ⟨A, c, rfl, hc, hB, hr⟩ := h.form
 have hlt := crcOf_lt hB
 refine eA k54 ?_
 refine gO ?_
 refine tT ?_; refine callP (crcOf_s l _ z h (by omega)) rfl rfl ?_; rintro _ _ - ⟨rfl, rfl⟩; refine gO ?_
 (refine appT.toRow 90 0 (m := 0) (sz := 1) rfl rfl rfl (by omega) (fun b => ?_)); simp only [seval, go_sem, rowSt, subV, subC, subE, subL]
 refine aT ?_; (refine appM_row 90 atyB rfl rfl rfl rfl hr (by first | omega | simp) (by simp [Value.oneCell']) (by omega) (fun v1 => ?_)); refine gO ?_
 refine aT ?_; (refine appM_newF 90 atyB rfl rfl rfl rfl rfl rfl rfl (by simp [Value.oneCell']) (by omega) (fun A2 c2 hc2 hat => ?_)); refine gO ?_
 simp only [crcPut_bs l hlt]
 (((try simp only [seval, go_sem]);repeat((with_reducible first|refine vJ ?_|refine vK ?_);try simp only [seval, go_sem])); refine FinV.own 90 rfl ?_; simp only [finE, finS, gt, look, SV.toV, SC.toV, allV, tupV, zq1, zq2, zq3, zq4, Nat.reduceAdd, Nat.reduceEqDiff, reduceCtorEq, if_true, if_false, reduceIte, Nat.succ_ne_self, true_and, zq5, zq7, zq8])
 rw [crcPut_length]
 exact ⟨_, _, rfl, rfl, hc2⟩
theorem frmBytesO (f : Frm) (v : Value) (z : Zc) (h : By z f.data v) (hl : f.data.length ≤ 100000) : Spec Tryz.prog 50 [vFrm f v] z emp fun v z' A' => ∃ A c, v = .slice A (frmBytes f).length c ∧ A' = bysA (frmBytes f) A c ∧ (frmBytes f).length ≤ c := by
 obtain ⟨A, c, rfl, hc, hB, hr⟩ := h.form
 refine eA k50 ?_
 refine gO ?_
 refine tT ?_; refine callP (frmOk_s f _ z h (by omega)) rfl rfl ?_; rintro _ _ - ⟨rfl, rfl⟩; refine gO ?_
 (with_reducible refine condI.split (fun hg => ?_) (fun hg => ?_) <;> (try simp only [hg]) <;> (try simp only [seval, go_sem]))
 ·simp at hg
  refine gO ?_
  (refine FinV.frz 1 rfl rfl (fun b z1 hz1 hr1 => ?_)); dsimp only at hz1; simp only [seval, go_sem, Go.Proofs.YtllafcmkppmdgaaGreat.frz, subV, subC, subE, subL]
  (first|refine fN ?_|exact fZ)
  rw [show frmBytes f = [] by simp only [frmBytes, hg]; rfl]
  exact ⟨_, _, rfl, by unfold bysA; rw [if_pos rfl], Nat.zero_le _⟩
 ·simp at hg
  refine gO ?_
  refine tT ?_; refine callP (bit_s _ _) rfl rfl ?_; rintro _ _ - ⟨rfl, rfl⟩; refine gO ?_
  refine tT ?_; refine callP (bit_s _ _) rfl rfl ?_; rintro _ _ - ⟨rfl, rfl⟩; refine gO ?_
  (refine appT.toRow 90 1 (m := 5) (sz := 1) rfl rfl rfl (by omega) (fun b => ?_)); simp only [seval, go_sem, rowSt, subV, subC, subE, subL]
  refine aT ?_; (refine appM_row 90 atyB rfl rfl rfl rfl hr (by first | omega | simp) (bc_one _) (by omega) (fun v1 => ?_)); refine gO ?_
  (first | refine callT.frzR 90 rfl (fun A2 c2 z2 hv2 hc2 hz2 hr2 => ?_) | refine callM.frzR 90 rfl (fun A2 c2 z2 hv2 hc2 hz2 hr2 => ?_)); dsimp only at hz2; subst hv2; simp only [seval, go_sem]
  have h2 : By z2 (frmHead f ++ f.data) (.slice A2 (5 + f.data.length) c2) := head_by hg hB hc2 (head_bc hg) hr2 rfl
  refine tT ?_; refine callO 91 (crcPutO _ _ z2 h2 (by simp [frmHead]; omega)) rfl rfl rfl ?_; rintro v z3 A' hz3 ⟨A3, c3, rfl, rfl, hc3⟩; refine gO ?_
  (((try simp only [seval, go_sem]);repeat((with_reducible first|refine vJ ?_|refine vK ?_);try simp only [seval, go_sem])); refine FinV.own 91 rfl ?_; simp only [finE, finS, gt, look, SV.toV, SC.toV, allV, tupV, zq1, zq2, zq3, zq4, Nat.reduceAdd, Nat.reduceEqDiff, reduceCtorEq, if_true, if_false, reduceIte, Nat.succ_ne_self, true_and, zq5, zq7, zq8])
  rw [frmBytes_ok hg]
  refine ⟨_, _, rfl, ?_, hc3⟩
  unfold bysA
  rw [if_neg (List.ne_nil_of_length_pos (by rw [crcPut_length]; omega))]
theorem txSend_stop {g : Bool} {c : Cfg} {t : Tx} {ack : Int} (h : txStops g c t = true) : txSend g c t ack = (t, none) := by unfold txSend; rw [if_pos h]
theorem txSend_old {g : Bool} {c : Cfg} {t : Tx} {ack : Int} (h : txStops g c t = false) (k : t.sent ≠ t.flight.length) : txSend g c t ack = ({ t with sent := t.sent + 1 }, some (dataFrm (t.flight.getD t.sent.toNat part0) ((t.acked + t.sent) % 8) ack)) := by
 unfold txSend txMove; rw [if_neg (by simp [h])]; simp only [if_neg k]
theorem txSend_new {g : Bool} {c : Cfg} {t : Tx} {ack : Int} {p : Part} {rest : List Part} (h : txStops g c t = false) (k : t.sent = t.flight.length) (hq : t.queue = p :: rest) : txSend g c t ack = ({ t with flight := t.flight ++ [p], queue := rest, next := numNext t.next, sent := t.sent + 1 }, some (dataFrm p ((t.acked + t.sent) % 8) ack)) := by
 unfold txSend txMove; rw [if_neg (by simp [h])]; simp only [if_pos k]
 have hn : t.sent.toNat = t.flight.length := by rw [k]; rfl
 simp [hq, hn]
theorem l6send (c : Cfg) (t : Tx) (A B : Option Addr) (a b : Nat) (cs ds : List Value) (ack : Int) (z : Zc) (hI : TxI c t) (he : Els pRep z t.flight cs) (hd : Els pRep z t.queue ds) (ha : t.flight.length ≤ a) (hb : t.queue.length ≤ b) (hk : 0 ≤ ack ∧ ack ≤ 7) :
  Spec Tryz.prog 119 [vCfg c, vTx t (.slice A t.flight.length a) (.slice B t.queue.length b), .int .i64 ack] z (starL [rowA tyP 3 (.slice A t.flight.length a) t.flight.length cs, rowA tyP 3 (.slice B t.queue.length b) t.queue.length ds]) fun u z' A' => ∃ A2 B2 a2 b2 cs2 ds2 x, u = .tuple #[vTx (txSend true c t ack).1 (.slice A2 (txSend true c t ack).1.flight.length a2) (.slice B2 (txSend true c t ack).1.queue.length b2), vFrm ((txSend true c t ack).2.getD frm0) x, .bool (txSend true c t ack).2.isSome] ∧
   A' = starL [rowA tyP 3 (.slice A2 (txSend true c t ack).1.flight.length a2) (txSend true c t ack).1.flight.length cs2, rowA tyP 3 (.slice B2 (txSend true c t ack).1.queue.length b2) (txSend true c t ack).1.queue.length ds2] ∧ By z' ((txSend true c t ack).2.getD frm0).data x ∧ (txSend true c t ack).1.flight.length ≤ a2 ∧ (txSend true c t ack).1.queue.length ≤ b2 ∧ Els pRep z' (txSend true c t ack).1.flight cs2 ∧ Els pRep z' (txSend true c t ack).1.queue ds2 := by
 obtain ⟨next, acked, flight, sent, queue, asks, tries, held, count, dead⟩ := t
 dsimp only at *
 have hq24 := hI.queue
 have hwin := hI.win
 have hmp := hI.cfg.mps
 have hcw := hI.cfg.win
 have hct := hI.count
 have hse := hI.sent
 have hac := hI.acked
 have hne := hI.next
 dsimp only at hq24 hwin hct hse hac hne
 have w1 : IntKind.i64.wrap (count + (flight.length : Int)) = count + flight.length := wrap_in (by omega) (by omega)
 have w2 : IntKind.i64.wrap (sent + 1) = sent + 1 := wrap_in (by omega) (by omega)
 have w3 : IntKind.i64.wrap (acked + sent) = acked + sent := wrap_in (by omega) (by omega)
 have w4 : (acked + sent).tmod 8 = (acked + sent) % 8 := Int.tmod_eq_emod_of_nonneg (by omega)
 by_cases hstop : txStops true c ⟨next, acked, flight, sent, queue, asks, tries, held, count, dead⟩ = true
 ·rw [txSend_stop hstop]
  refine eL [90, 91] k119 ?_
  (try simp only [seval, go_sem]); repeat' (first | (with_reducible refine vsI.id ?_; (try simp only [seval, go_sem])) | (with_reducible refine vcI_cond ?_; (try simp only [seval, go_sem])) | (with_reducible refine guardR.split (fun hg => ?_) (fun hg => ?_) <;> (try simp only [hg]) <;> simp only [seval, go_sem]) | (with_reducible refine condI.split (fun hg => ?_) (fun hg => ?_) <;> (try simp only [hg]) <;> (try simp only [seval, go_sem])) | (with_reducible refine callM.toT ?_))
  all_goals (try simp only [w1] at *)
  all_goals first
   | ((refine FinV.pk 999 [90, 91] ?_); dsimp only; refine fP ?_; exact ⟨A, B, a, b, cs, ds, .slice none 0 0, by simp_all [vTx, vFrm, frm0], rfl, Sl.nil _ _ _, ha, hb, he, hd⟩)
   | (exfalso; simp_all [txStops, txTop]; done)
   | (exfalso; simp_all [txStops, txTop]; omega)
 ·have hst : txStops true c ⟨next, acked, flight, sent, queue, asks, tries, held, count, dead⟩ = false := by simpa using hstop
  obtain ⟨d1, d2, d3, d4⟩ := txStops_no hst
  dsimp only at d1 d2 d3 d4
  subst d1 d2 d3
  by_cases hk9 : sent = flight.length
  ·obtain ⟨d5, d6, d7⟩ := d4 hk9
   obtain ⟨p, rest, rfl⟩ : ∃ p rest, queue = p :: rest := by
    cases queue with
    | nil => exact absurd rfl d6
    | cons p rest => exact ⟨p, rest, rfl⟩
   rw [txSend_new hst hk9 rfl]
   have hge : ¬ count + (flight.length : Int) ≥ 9999 := fun h => by simp [txStops, txTop, hk9, d5] at hst; omega
   refine eL [90, 91] k119 ?_
   refine vsI.atR 91 rfl fun hat => ?_
   (refine vsI.frzR 91 rfl rfl (fun A4 c4 z4 hv4 hc4 hz4 hr4 => ?_)); (first | subst hv4 | (injection hv4 with hv_1 hv_2 hv_3; subst hv_1; subst hv_3)); refine gO ?_
   (try simp only [seval, go_sem]); repeat' (first | (with_reducible refine vsI.id ?_; (try simp only [seval, go_sem])) | (with_reducible refine vcI_cond ?_; (try simp only [seval, go_sem])) | (with_reducible refine guardR.split (fun hg => ?_) (fun hg => ?_) <;> (try simp only [hg]) <;> simp only [seval, go_sem]) | (with_reducible refine condI.split (fun hg => ?_) (fun hg => ?_) <;> (try simp only [hg]) <;> (try simp only [seval, go_sem])) | (with_reducible refine callM.toT ?_))
   ·exfalso; simp at hg; omega
   ·exfalso; simp at hg; omega
   ·exfalso; rw [w1] at hg; simp at hg; omega
   ·have he4 := he.mono hz4
    have hd4 := hd.mono hz4
    have hx : (p :: rest)[0]? = some p := rfl
    obtain ⟨c1, ⟨v1, rfl, hb1⟩, hr1⟩ := hd4.at hr4 hx
    obtain ⟨A1, k1, rfl, hk1, hB1, hrb1⟩ := hb1.form
    refine ⟨⟨by omega, hat (by simp)⟩, ?_⟩
    (refine ldF.agg _ rfl (by first | exact .inl hr1 | exact hr1) ?_; (try simp only [seval, go_sem]))
    refine gO ?_
    refine aT ?_; (refine appM_newF 90 atyP rfl rfl rfl rfl rfl rfl rfl (by simp [Value.oneCell']) (by omega) (fun A6 c6 hc6 hat6 => ?_)); refine gO ?_
    have hdr : Sl pRep z4 rest (.slice (cutA B b 1 3) (rest.length + 1 - 1) (b - 1)) := Sl.drop (k := 1) (⟨B, b, _, rfl, hb, hd4, hr4⟩ : Sl pRep z4 (p :: rest) (.slice B (p :: rest).length b))
    refine ⟨by omega, ?_⟩; refine gO ?_
    refine tT ?_; refine callO 91 (l6list_s rest _ z4 hdr (by simp at hq24; omega) (fun p' hp' => by have := hI.qu p' (List.mem_cons_of_mem _ hp'); omega)) rfl rfl rfl ?_; rintro u z5 A' hz5 ⟨A7, k7, cs7, rfl, rfl, hk7, he7⟩; refine gO ?_
    refine tT ?_; refine callP (numnext_s next z5 (by omega)) rfl rfl ?_; rintro _ _ - ⟨rfl, rfl⟩; refine gO ?_
    (with_reducible refine joinV.id ?_; simp only [seval, go_sem])
    (refine ⟨⟨by omega, by omega, hat6.resolve_right (by omega)⟩, ?_⟩; (try simp only [seval, go_sem]))
    have hn9 : sent.toNat = flight.length := by omega
    have hcl : cs.length = flight.length * 3 := he.length
    refine And.intro ?_ ?_
    all_goals (try simp only [seval, go_sem])
    all_goals (refine ldF.agg (sz := 3) [.int .i64 p.seg, .int .i64 p.len, .slice A1 p.data.length k1] rfl (by exact .inr ⟨90, _, _, _, _, _, rfl, fun i u hu => by rw [hn9, ← hcl, List.getElem?_append_right (by omega), Nat.add_sub_cancel_left]; exact hu⟩) ?_)
    all_goals (try simp only [seval, go_sem])
    all_goals (try (refine And.intro ?_ ?_))
    all_goals (try simp only [seval, go_sem])
    all_goals simp only [w3, w4]
    all_goals refine tT ?_; refine callP (l6frame p _ ((acked + sent) % 8) ack z5 (hb1.mono hz5) (by have := hI.qu p (by simp); omega)) rfl rfl ?_; rintro v z1 hz1 ⟨A3, k3, rfl, h3⟩; refine gO ?_
    all_goals (refine FinV.pk 999 [90, 91] ?_); dsimp only
    all_goals refine fP ?_
    all_goals simp only [w2]
    all_goals rw [show (flight ++ [p]).length = flight.length + 1 by simp]
    all_goals exact ⟨A6, A7, c6, k7, _, cs7, _, rfl, rfl, h3, hc6, hk7, (he4.mono (Zc.trans' hz5 hz1)).append (Els.single (d := pRep) ⟨_, rfl, hb1.mono (Zc.trans' hz5 hz1)⟩), he7.mono hz1⟩
   ·exfalso; simp at hg; omega
  ·rw [txSend_old hst hk9]
   have hlt : sent.toNat < flight.length := by omega
   obtain ⟨x, hx⟩ : ∃ x, flight[sent.toNat]? = some x := ⟨_, List.getElem?_eq_getElem hlt⟩
   rw [show flight.getD sent.toNat part0 = x by rw [List.getD_eq_getElem?_getD, hx]; rfl]
   obtain ⟨c1, ⟨v1, rfl, hb1⟩, hg1⟩ := he.get hx
   obtain ⟨A1, k1, rfl, hk1, hB1, hr1⟩ := hb1.form
   refine eL [90, 91] k119 ?_
   refine vsI.atR 90 rfl fun hat => ?_
   refine gO ?_
   (with_reducible refine condI.split (fun hg => ?_) (fun hg => ?_) <;> (try simp only [hg]) <;> (try simp only [seval, go_sem]))
   ·exfalso
    simp at hg
    omega
   ·refine gO ?_
    (with_reducible refine joinV.id ?_; simp only [seval, go_sem])
    (refine ⟨⟨by omega, by omega, hat (by omega)⟩, ?_⟩; (try simp only [seval, go_sem]))
    refine And.intro ?_ ?_
    all_goals (try simp only [seval, go_sem])
    all_goals (refine ldF.agg (sz := 3) [.int .i64 x.seg, .int .i64 x.len, .slice A1 x.data.length k1] rfl (by exact .inr ⟨90, _, _, _, _, _, rfl, hg1⟩) ?_)
    all_goals (try simp only [seval, go_sem])
    all_goals (try (refine And.intro ?_ ?_))
    all_goals (try simp only [seval, go_sem])
    all_goals simp only [w3, w4]
    all_goals refine tT ?_; refine callP (l6frame x _ ((acked + sent) % 8) ack z hb1 (by have := hI.fl x (List.mem_of_getElem? hx); omega)) rfl rfl ?_; rintro v z1 hz1 ⟨A3, k3, rfl, h3⟩; refine gO ?_
    all_goals (refine FinV.pk 999 [90, 91] ?_); dsimp only
    all_goals refine fP ?_
    all_goals simp only [w2]
    all_goals exact ⟨A, B, a, b, cs, ds, _, rfl, rfl, h3, ha, hb, he.mono hz1, hd.mono hz1⟩
set_option maxHeartbeats 4000000
set_option linter.defProp false
def k61 := mkK [(.c 2 8 true)] [] [] Tryz.func61 Tryz.ntmps61 rfl
def k64 := mkK [(.c 2 8 true)] [] [(6,[],.l [0,5,8,13,20,25,32,37,44,49,56,61,68,73,18,30,42,54,66,78,80,86,90,92,99]),(14,[],.l [0,4,9,12,16,21,24,28,32,37,44,49,52,56,61,64,68,72,77,42,82,84,90,94,96])] Tryz.func64 Tryz.ntmps64 rfl
def k121 := mkK [(.c 6 8 true)] [1000028] [(3,[],.f [0,5,8,12,17,20,24,32,36] (.l [30,42,46,48,55]) (.l [42,30,46,48,55]))] Tryz.func121 Tryz.ntmps121 rfl
def k124 := mkK [(.c 6 8 true)] [] [(4,[],.l [1,4,8,12,16,21,26,31])] Tryz.func124 Tryz.ntmps124 rfl
def k158 := mkK [(.c 6 8 true)] [1000029] [(5,[],.f [0,5,8,12,17,20,24,28,36,40,44,49] (.l [34,54,58,60,64,71]) (.l [54,34,58,60,64,71]))] Tryz.func158 Tryz.ntmps158 rfl
def k89 := mkK [(.c 6 8 true)] [] [(6,[],.l [0,5,8,12,17,20,25,28,34,36,40,44,48,52,59,60]),(7,[],.l [0,5,8,12,17,20,25,28,34,36,40,44,48,52,59,60]),(9,[],.l [0,5,8,12,17,24,22,30,34,38,40,44,51])] Tryz.func89 Tryz.ntmps89 rfl
def k90 := mkK [(.c 4 8 true)] [] [(7,[6],.l [0,5,8,12,17,20,25,28,32,37,42,44,48,52,56,60,64,71,75,76]),(8,[6],.l [0,5,8,12,17,20,25,30,32,36,40,44,48,52,59,63,64])] Tryz.func90 Tryz.ntmps90 rfl
def k91 := mkK [(.c 4 8 true)] [] [] Tryz.func91 Tryz.ntmps91 rfl
def k92 := mkK [(.c 4 8 true)] [] [(7,[4],.l [1,4,9,12,16,21,26,30,34])] Tryz.func92 Tryz.ntmps92 rfl
def k155 := mkK [(.c 6 8 true)] [] [(2,[],.l [0,5,8,12,17,21,26,28,32,39])] Tryz.func155 Tryz.ntmps155 rfl
def k128 := mkK [(.c 6 8 true)] [] [(7,[],.l [0,5,8,12,17,20,25,28,33,38,40,44,51])] Tryz.func128 Tryz.ntmps128 rfl
def k127 := mkK [(.c 4 8 true),(.c 5 2 true)] [1000021] [(2,[],.f [0,5,8,16,21,24,28] (.l [14,34,36,42,44,51]) (.l [34,36,14,42,44,51])),(3,[4,5],.l [1,5,10,14])] Tryz.func127 Tryz.ntmps127 rfl
def k93 := mkK [(.c 4 8 true)] [1000091, 1000103] [(16,[],.l [0,5,8,13,16,21,24,29,32,40,45,48,38,52,56,63]),(18,[],.l [0,5,8,13,16,25,22,28,35])] Tryz.func93 Tryz.ntmps93 rfl
def k63 := mkK [(.c 4 8 true)] [1000080] [(23,[],.f [0,5,8,13,16,21,24,29,32,44,49] (.l [38,42,54,56,62,66,68,75]) (.f [42] (.l [38,54,56,62,66,68,75]) (.f [54,56] (.l [38,62,66,68,75]) (.l [62,38,66,68,75]))))] Tryz.func63 Tryz.ntmps63 rfl
set_option maxHeartbeats 1000000
theorem RdS.cell {z : Zc} {L : Ents} {A : Option Addr} {o : Nat} {u : Value} (k : Nat) {e sz n c : Nat} {cs : List Value} (hk : look k L = some (.own (rowA e sz (.slice A n c) n cs))) (h : cs[o]? = some u) : RdS z L A o [u] :=
 .inr ⟨k, e, sz, n, c, cs, hk, fun i v hv => by
  cases i with
  | zero => simp at hv; subst hv; exact h
  | succ i => simp at hv⟩
theorem atyMs : AppTy Tryz.prog 53 70 2 := AppTy.of (by kernel_rfl)
abbrev tyE : Nat := 50
abbrev tyN : Nat := 53
abbrev tyM : Nat := 70
abbrev tyS : Nat := 22
structure EndM where
 fA : Option Addr
 fC : Nat
 fV : List Value
 qA : Option Addr
 qC : Nat
 qV : List Value
 pA : Option Addr
 pC : Nat
 pV : List Value
 gA : Option Addr
 gC : Nat
 gV : List Value
 jA : Option Addr
 jC : Nat
 cA : Option Addr
 cC : Nat
 kA : Option Addr
 kC : Nat
def endC (e : End) (m : EndM) : List Value := [.int .i64 e.tx.next, .int .i64 e.tx.acked, .slice m.fA e.tx.flight.length m.fC, .int .i64 e.tx.sent, .slice m.qA e.tx.queue.length m.qC, .bool e.tx.asks, .int .i64 e.tx.tries, .bool e.tx.held, .int .i64 e.tx.count, .bool e.tx.dead,
 .int .i64 e.rx.expect, .int .i64 e.rx.count, .int .i64 e.rx.join.len, .slice m.jA e.rx.join.got.length m.jC, .bool e.rx.again, .bool e.rx.busy, .bool e.rx.dead,
 .int .i64 e.ctx.hav, .slice m.cA e.ctx.queue.length m.cC, .int .i64 e.ctx.granted, .int .i64 e.ctx.sent, .bool e.ctx.dead,
 .int .i64 e.crx.out, .int .i64 e.crx.join.len, .slice m.kA e.crx.join.got.length m.kC, .bool e.crx.dead, .slice m.pA e.put.length m.pC, .slice m.gA e.got.length m.gC]
def endsC (e0 e1 : End) (m0 m1 : EndM) : List Value := endC e0 m0 ++ endC e1 m1
structure EndR (z : Zc) (e : End) (m : EndM) : Prop where
 fl : Els pRep z e.tx.flight m.fV
 fc : e.tx.flight.length ≤ m.fC
 qu : Els pRep z e.tx.queue m.qV
 qc : e.tx.queue.length ≤ m.qC
 pu : Els sduRep z e.put m.pV
 pc : e.put.length ≤ m.pC
 go : Els sduRep z e.got m.gV
 gc : e.got.length ≤ m.gC
 jo : By z e.rx.join.got (.slice m.jA e.rx.join.got.length m.jC)
 cq : Sl pRep z e.ctx.queue (.slice m.cA e.ctx.queue.length m.cC)
 kj : By z e.crx.join.got (.slice m.kA e.crx.join.got.length m.kC)
theorem EndR.mono {z z' : Zc} {e : End} {m : EndM} (hz : z ≤ z') (h : EndR z e m) : EndR z' e m := ⟨h.fl.mono hz, h.fc, h.qu.mono hz, h.qc, h.pu.mono hz, h.pc, h.go.mono hz, h.gc, Sl.mono hz h.jo, h.cq.mono hz, Sl.mono hz h.kj⟩
structure NetM where
 A : Option Addr
 C : Nat
 ms : List (Option Addr × Nat)
def netV : List Msg → List (Option Addr × Nat) → List Value
 | m :: l, (a, c) :: ms => .bool m.bent :: .slice a m.bytes.length c :: netV l ms
 | _, _ => []
def netB : List Msg → List (Option Addr × Nat) → List Asrt
 | m :: l, (a, c) :: ms => bysA m.bytes a c :: netB l ms
 | _, _ => []
def netO : List Msg → List (Option Addr × Nat) → Prop
 | m :: l, (a, c) :: ms => (m.bytes.length ≤ c ∧ Bys m.bytes) ∧ netO l ms
 | [], [] => True
 | _, _ => False
structure NetR (l : List Msg) (n : NetM) : Prop where
 ok : netO l n.ms
 cap : l.length ≤ n.C
structure WM where
 E : Option Addr
 EC : Nat
 N : Option Addr
 NC : Nat
 m0 : EndM
 m1 : EndM
 n0 : NetM
 n1 : NetM
abbrev wldV (c : Cfg) (link : Int) (m : WM) : Value := .agg #[.int .i64 c.mode, .int .i64 c.win, .int .i64 c.mps, .int .i64 c.mtu, .int .i64 c.tri, .slice m.E 2 m.EC, .slice m.N 2 m.NC, .int .i64 link]
abbrev wldA (e0 e1 : End) (n0 n1 : List Msg) (m : WM) : Asrt := starL [rowA tyE 28 (.slice m.E 2 m.EC) 2 (endsC e0 e1 m.m0 m.m1), rowA tyN 1 (.slice m.N 2 m.NC) 2 [.slice m.n0.A n0.length m.n0.C, .slice m.n1.A n1.length m.n1.C],
 rowA tyP 3 (.slice m.m0.fA e0.tx.flight.length m.m0.fC) e0.tx.flight.length m.m0.fV, rowA tyP 3 (.slice m.m0.qA e0.tx.queue.length m.m0.qC) e0.tx.queue.length m.m0.qV, rowA tyS 1 (.slice m.m0.pA e0.put.length m.m0.pC) e0.put.length m.m0.pV, rowA tyS 1 (.slice m.m0.gA e0.got.length m.m0.gC) e0.got.length m.m0.gV,
 rowA tyP 3 (.slice m.m1.fA e1.tx.flight.length m.m1.fC) e1.tx.flight.length m.m1.fV, rowA tyP 3 (.slice m.m1.qA e1.tx.queue.length m.m1.qC) e1.tx.queue.length m.m1.qV, rowA tyS 1 (.slice m.m1.pA e1.put.length m.m1.pC) e1.put.length m.m1.pV, rowA tyS 1 (.slice m.m1.gA e1.got.length m.m1.gC) e1.got.length m.m1.gV,
 rowA tyM 2 (.slice m.n0.A n0.length m.n0.C) n0.length (netV n0 m.n0.ms), starL (netB n0 m.n0.ms), rowA tyM 2 (.slice m.n1.A n1.length m.n1.C) n1.length (netV n1 m.n1.ms), starL (netB n1 m.n1.ms)]
structure WldR (z : Zc) (e0 e1 : End) (n0 n1 : List Msg) (m : WM) : Prop where
 e0 : EndR z e0 m.m0
 e1 : EndR z e1 m.m1
 n0 : NetR n0 m.n0
 n1 : NetR n1 m.n1
def WldH (c : Cfg) (w : Wld) (u : Value) (z : Zc) (A : Asrt) : Prop := ∃ e0 e1 n0 n1 m, w.cfg = c ∧ w.ends = [e0, e1] ∧ w.net = [n0, n1] ∧ u = wldV c w.link m ∧ A = wldA e0 e1 n0 n1 m ∧ WldR z e0 e1 n0 n1 m
theorem netV_snoc (l : List Msg) (m : Msg) : ∀ (ms : List (Option Addr × Nat)) (a : Option Addr) (c : Nat), ms.length = l.length → netV (l ++ [m]) (ms ++ [(a, c)]) = netV l ms ++ [.bool m.bent, .slice a m.bytes.length c] := by
 induction l with
 | nil => intro ms a c h; obtain rfl := List.eq_nil_of_length_eq_zero h; rfl
 | cons x l ih =>
  intro ms a c h
  cases ms with
  | nil => simp at h
  | cons y ms => obtain ⟨b, k⟩ := y; simp only [List.cons_append, netV]; rw [ih ms a c (by simpa using h)]
theorem netB_snoc (l : List Msg) (m : Msg) : ∀ (ms : List (Option Addr × Nat)) (a : Option Addr) (c : Nat), ms.length = l.length → netB (l ++ [m]) (ms ++ [(a, c)]) = netB l ms ++ [bysA m.bytes a c] := by
 induction l with
 | nil => intro ms a c h; obtain rfl := List.eq_nil_of_length_eq_zero h; rfl
 | cons x l ih =>
  intro ms a c h
  cases ms with
  | nil => simp at h
  | cons y ms => obtain ⟨b, k⟩ := y; simp only [List.cons_append, netB]; rw [ih ms a c (by simpa using h)]
theorem netO.len : ∀ {l : List Msg} {ms : List (Option Addr × Nat)}, netO l ms → ms.length = l.length
 | [], [], _ => rfl
 | [], _ :: _, h => h.elim
 | _ :: _, [], h => h.elim
 | m :: l, (a, c) :: ms, h => by rw [List.length_cons, List.length_cons, netO.len h.2]
theorem netO.snoc : ∀ {l : List Msg} {ms : List (Option Addr × Nat)} {m : Msg} {a : Option Addr} {c : Nat}, netO l ms → m.bytes.length ≤ c → Bys m.bytes → netO (l ++ [m]) (ms ++ [(a, c)])
 | [], [], m, a, c, _, h1, h2 => ⟨⟨h1, h2⟩, trivial⟩
 | [], _ :: _, _, _, _, h, _, _ => h.elim
 | _ :: _, [], _, _, _, h, _, _ => h.elim
 | x :: l, (a', c') :: ms, m, a, c, h, h1, h2 => ⟨h.1, netO.snoc h.2 h1 h2⟩
theorem netV_len : ∀ {l : List Msg} {ms : List (Option Addr × Nat)}, netO l ms → (netV l ms).length = l.length * 2
 | [], [], _ => rfl
 | [], _ :: _, h => h.elim
 | _ :: _, [], h => h.elim
 | m :: l, (a, c) :: ms, h => by simp only [netV, List.length_cons]; rw [netV_len h.2]; omega
theorem starL_snoc {w : World} {A : Asrt} : ∀ {As : List Asrt} {F : Nat → Prop}, (starA (starL As) A).holds w F → (starL (As ++ [A])).holds w F
 | [], F, ⟨F1, F2, h1, h2, hd, hF⟩ => ⟨F2, F1, h2, h1, fun b k1 k2 => hd b k2 k1, fun b => (hF b).trans or_comm⟩
 | B :: As, F, ⟨F1, F2, ⟨G1, G2, g1, g2, gd, gF⟩, h2, hd, hF⟩ =>
  ⟨G1, fun b => G2 b ∨ F2 b, g1, starL_snoc ⟨G2, F2, g2, h2, fun b k1 k2 => hd b ((gF b).2 (.inr k1)) k2, fun b => Iff.rfl⟩, fun b k1 k2 => k2.elim (gd b k1) (hd b ((gF b).2 (.inl k1))), fun b => by rw [hF b, gF b, or_assoc]⟩
theorem starA_emp {w : World} {A : Asrt} {F : Nat → Prop} (h : (starA A emp).holds w F) : A.holds w F := by
 obtain ⟨F1, F2, h1, h2, hd, hF⟩ := h
 have : F = F1 := funext fun b => propext ((hF b).trans ⟨fun k => k.elim id fun k => absurd k (h2 b), .inl⟩)
 rw [this]; exact h1
theorem starL_push {w : World} {As : List Asrt} {B : Asrt} {F : Nat → Prop} (h : (starL [starL As, B]).holds w F) : (starL (As ++ [B])).holds w F := by
 obtain ⟨F1, F2, h1, h2, hd, hF⟩ := h
 exact starL_snoc ⟨F1, F2, h1, starA_emp h2, hd, hF⟩
theorem Tf.split {s : St} (k k1 : Nat) {A : Asrt} {As : List Asrt} (hk : look k s.L = some (.own (starL (A :: As)))) (hk' : look k (del k s.L) = none) (h1 : look k1 s.L = none) : Tf s ⟨s.t, (k1, .own A) :: (k, .own (starL As)) :: del k s.L, s.z, s.n⟩ :=
 Tf.mk' (fun {ρ w F} hh => by
  obtain ⟨F1, F2, ⟨G1, G2, g1, g2, gd, gF⟩, k2, kd, kF⟩ := hh.pick hk
  refine ⟨G1, fun b => G2 b ∨ F2 b, g1, ⟨G2, F2, g2, k2, fun b h => kd b ((gF b).2 (.inr h)), fun b => Iff.rfl⟩, fun b h h' => h'.elim (gd b h) (kd b ((gF b).2 (.inl h))), fun b => by rw [kF b, gF b, or_assoc]⟩) fun {j e cs} hj => by
  have e1 : ¬ k1 = j := fun e => by subst e; rw [h1] at hj; cases hj
  have e2 : ¬ k = j := fun e => by subst e; rw [hk] at hj; injection hj with hj; cases hj
  show (if k1 = j then _ else if k = j then _ else _) = _
  rw [if_neg e1, if_neg e2, look_del (fun e => e2 e.symm)]; exact hj
theorem frmBytes_pos {f : Frm} (h : frmOk f = true) : 0 < (frmBytes f).length := by rw [frmBytes_ok h, crcPut_length]; omega
theorem say1_y0 {c : Cfg} {es : List End} {n0 n1 : List Msg} {l : Int} {f : Frm} (h : n0.length < 30) : say1 ⟨c, es, [n0, n1], l⟩ 1 f = ⟨c, es, [n0 ++ [⟨false, frmBytes f⟩], n1], l⟩ := by unfold say1; rw [if_pos (by exact h)]; rfl
theorem say1_n0 {c : Cfg} {es : List End} {n0 n1 : List Msg} {l : Int} {f : Frm} (h : ¬ n0.length < 30) : say1 ⟨c, es, [n0, n1], l⟩ 1 f = ⟨c, es, [n0, n1], l⟩ := by unfold say1; rw [if_neg (by exact h)]
theorem say1_y1 {c : Cfg} {es : List End} {n0 n1 : List Msg} {l : Int} {f : Frm} (h : n1.length < 30) : say1 ⟨c, es, [n0, n1], l⟩ 0 f = ⟨c, es, [n0, n1 ++ [⟨false, frmBytes f⟩]], l⟩ := by unfold say1; rw [if_pos (by exact h)]; rfl
theorem say1_n1 {c : Cfg} {es : List End} {n0 n1 : List Msg} {l : Int} {f : Frm} (h : ¬ n1.length < 30) : say1 ⟨c, es, [n0, n1], l⟩ 0 f = ⟨c, es, [n0, n1], l⟩ := by unfold say1; rw [if_neg (by exact h)]
theorem NetR.snoc {l : List Msg} {n : NetM} {m : Msg} {A a : Option Addr} {C c : Nat} (h : NetR l n) (hc : l.length + 1 ≤ C) (h1 : m.bytes.length ≤ c) (h2 : Bys m.bytes) : NetR (l ++ [m]) ⟨A, C, n.ms ++ [(a, c)]⟩ := ⟨h.ok.snoc h1 h2, by simpa using hc⟩
theorem l9way0 (c : Cfg) (link : Int) (e0 e1 : End) (n0 n1 : List Msg) (m : WM) (f : Frm) (x : Value) (z : Zc) (hR : WldR z e0 e1 n0 n1 m) (h0 : n0.length ≤ 1000) (hf : frmOk f = true) (hx : By z f.data x) (hl : f.data.length ≤ 100000) :
  Spec Tryz.prog 121 [wldV c link m, .int .i64 0, vFrm f x] z (wldA e0 e1 n0 n1 m) (WldH c (say1 ⟨c, [e0, e1], [n0, n1], link⟩ 1 f)) := by
 obtain ⟨Ax, kx, rfl, hkx, hBx, hrx⟩ := hx.form
 have hpos := frmBytes_pos hf
 have hlen := hR.n0.ok.len
 have hvl := netV_len hR.n0.ok
 refine eL kyR k121 ?_
 refine vsI.atR 11 rfl fun hN => ?_
 have hN := hN (by omega)
 refine gO ?_
 refine tT ?_; refine callO 95 (frmBytesO f _ z hx hl) rfl rfl rfl ?_; rintro v z1 A' hz1 ⟨A5, c5, rfl, rfl, hc5⟩; refine gO ?_
 have hR1 : WldR z1 e0 e1 n0 n1 m := ⟨hR.e0.mono hz1, hR.e1.mono hz1, hR.n0, hR.n1⟩
 (with_reducible refine guardR.split (fun hg => ?_) (fun hg => ?_) <;> (try simp only [hg]) <;> simp only [seval, go_sem])
 ·((first | refine ⟨⟨by omega, hN⟩, ?_⟩ | refine ⟨hN, ?_⟩); (try simp only [seval, go_sem]))
  (refine ldF.one _ (RdS.cell 11 rfl rfl) ?_; refine gO ?_)
  (with_reducible refine condI.split (fun hg => ?_) (fun hg => ?_) <;> (try simp only [hg]) <;> (try simp only [seval, go_sem]))
  ·have h30 : n0.length < 30 := by have := of_decide_eq_true hg; omega
   rw [say1_y0 h30]
   refine gO ?_
   (with_reducible refine joinV.id ?_; simp only [seval, go_sem])
   ((first | refine ⟨⟨by omega, hN⟩, ?_⟩ | refine ⟨hN, ?_⟩); (try simp only [seval, go_sem]))
   refine And.intro ?_ ?_
   all_goals (try simp only [seval, go_sem])
   all_goals (refine ldF.one _ (RdS.cell 11 rfl rfl) ?_; refine gO ?_)
   all_goals refine aT ?_; (refine appM_newF 40 atyMs rfl rfl rfl rfl rfl rfl rfl (by simp [Value.oneCell']) (by omega) (fun A6 c6 hc6 hat6 => ?_)); refine gO ?_
   all_goals ((first | refine ⟨⟨by omega, hN⟩, ?_⟩ | refine ⟨hN, ?_⟩); (try simp only [seval, go_sem]))
   all_goals (refine stoV_row 11 rfl rfl rfl rfl rfl rfl rfl (by simp) ?_; simp only [seval, go_sem, putV]; refine gO ?_)
   all_goals (refine FinV.pk 96 [41, 95] ?_); dsimp only
   all_goals refine FinV.tf (Tf.own 96 rfl rfl (fun w F h => starL_push h)) ?_
   all_goals dsimp only
   all_goals (refine FinV.pk 999 [10, 11, 20, 21, 22, 23, 30, 31, 32, 33, 40, 96, 50, 51] ?_); dsimp only
   all_goals refine fP ?_
   all_goals refine ⟨e0, e1, (n0 ++ [⟨false, frmBytes f⟩]), n1, { m with n0 := ⟨A6, c6, m.n0.ms ++ [(A5, c5)]⟩ }, rfl, rfl, rfl, rfl, ?_, ⟨hR1.e0, hR1.e1, hR1.n0.snoc hc6 hc5 (frmBytes_bys hf hBx), hR1.n1⟩⟩
   all_goals simp only [wldA, netV_snoc _ _ _ _ _ hlen, netB_snoc _ _ _ _ _ hlen, List.length_append, List.length_singleton]
  ·have h30 : ¬ n0.length < 30 := by have := of_decide_eq_false hg; omega
   rw [say1_n0 h30]
   refine gO ?_
   refine wS ?_
   exact ⟨e0, e1, n0, n1, m, rfl, rfl, rfl, rfl, rfl, hR1⟩
 ·exfalso
  have := of_decide_eq_false hg
  omega
theorem l9way1 (c : Cfg) (link : Int) (e0 e1 : End) (n0 n1 : List Msg) (m : WM) (f : Frm) (x : Value) (z : Zc) (hR : WldR z e0 e1 n0 n1 m) (h0 : n1.length ≤ 1000) (hf : frmOk f = true) (hx : By z f.data x) (hl : f.data.length ≤ 100000) :
  Spec Tryz.prog 121 [wldV c link m, .int .i64 1, vFrm f x] z (wldA e0 e1 n0 n1 m) (WldH c (say1 ⟨c, [e0, e1], [n0, n1], link⟩ 0 f)) := by
 obtain ⟨Ax, kx, rfl, hkx, hBx, hrx⟩ := hx.form
 have hpos := frmBytes_pos hf
 have hlen := hR.n1.ok.len
 have hvl := netV_len hR.n1.ok
 refine eL kyR k121 ?_
 refine vsI.atR 11 rfl fun hN => ?_
 have hN := hN (by omega)
 refine gO ?_
 refine tT ?_; refine callO 95 (frmBytesO f _ z hx hl) rfl rfl rfl ?_; rintro v z1 A' hz1 ⟨A5, c5, rfl, rfl, hc5⟩; refine gO ?_
 have hR1 : WldR z1 e0 e1 n0 n1 m := ⟨hR.e0.mono hz1, hR.e1.mono hz1, hR.n0, hR.n1⟩
 (with_reducible refine guardR.split (fun hg => ?_) (fun hg => ?_) <;> (try simp only [hg]) <;> simp only [seval, go_sem])
 ·((first | refine ⟨⟨by omega, hN⟩, ?_⟩ | refine ⟨hN, ?_⟩); (try simp only [seval, go_sem]))
  (refine ldF.one _ (RdS.cell 11 rfl rfl) ?_; refine gO ?_)
  (with_reducible refine condI.split (fun hg => ?_) (fun hg => ?_) <;> (try simp only [hg]) <;> (try simp only [seval, go_sem]))
  ·have h30 : n1.length < 30 := by have := of_decide_eq_true hg; omega
   rw [say1_y1 h30]
   refine gO ?_
   (with_reducible refine joinV.id ?_; simp only [seval, go_sem])
   ((first | refine ⟨⟨by omega, hN⟩, ?_⟩ | refine ⟨hN, ?_⟩); (try simp only [seval, go_sem]))
   refine And.intro ?_ ?_
   all_goals (try simp only [seval, go_sem])
   all_goals (refine ldF.one _ (RdS.cell 11 rfl rfl) ?_; refine gO ?_)
   all_goals refine aT ?_; (refine appM_newF 50 atyMs rfl rfl rfl rfl rfl rfl rfl (by simp [Value.oneCell']) (by omega) (fun A6 c6 hc6 hat6 => ?_)); refine gO ?_
   all_goals ((first | refine ⟨⟨by omega, hN⟩, ?_⟩ | refine ⟨hN, ?_⟩); (try simp only [seval, go_sem]))
   all_goals (refine stoV_row 11 rfl rfl rfl rfl rfl rfl rfl (by simp) ?_; simp only [seval, go_sem, putV]; refine gO ?_)
   all_goals (refine FinV.pk 96 [51, 95] ?_); dsimp only
   all_goals refine FinV.tf (Tf.own 96 rfl rfl (fun w F h => starL_push h)) ?_
   all_goals dsimp only
   all_goals (refine FinV.pk 999 [10, 11, 20, 21, 22, 23, 30, 31, 32, 33, 40, 41, 50, 96] ?_); dsimp only
   all_goals refine fP ?_
   all_goals refine ⟨e0, e1, n0, (n1 ++ [⟨false, frmBytes f⟩]), { m with n1 := ⟨A6, c6, m.n1.ms ++ [(A5, c5)]⟩ }, rfl, rfl, rfl, rfl, ?_, ⟨hR1.e0, hR1.e1, hR1.n0, hR1.n1.snoc hc6 hc5 (frmBytes_bys hf hBx)⟩⟩
   all_goals simp only [wldA, netV_snoc _ _ _ _ _ hlen, netB_snoc _ _ _ _ _ hlen, List.length_append, List.length_singleton]
  ·have h30 : ¬ n1.length < 30 := by have := of_decide_eq_false hg; omega
   rw [say1_n1 h30]
   refine gO ?_
   refine wS ?_
   exact ⟨e0, e1, n0, n1, m, rfl, rfl, rfl, rfl, rfl, hR1⟩
 ·exfalso
  have := of_decide_eq_false hg
  omega
end Go.Proofs.YtllafcmkppmdgaaGreat
