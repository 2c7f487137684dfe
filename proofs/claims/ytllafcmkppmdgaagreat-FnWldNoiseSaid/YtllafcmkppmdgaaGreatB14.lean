/- What one wants, drawn: rows, and the end. · What one wants, drawn: its contract. · What is drawn to happen to two ends, on a link that keeps all. · One takes a message by numbers, by the reference. · One sends, or asks, by numbers, by the reference. · Frames go on their way, by the reference. · One is busy, or says how far all has come, by numbers, by the reference. · One hears a frame by numbers, by the reference. -/
import Derived.Test.YtllafcmkppmdgaaGreatB13
import Derived.Test.YtllafcmkppmdgaaGreatB12
import Derived.Test.YtllafcmkppmdgaaGreatB11
import Derived.Test.YtllafcmkppmdgaaGreatB6
import Derived.Test.YtllafcmkppmdgaaGreatB5
namespace Go.Proofs.YtllafcmkppmdgaaGreat
open Go.RowKit
set_option linter.unusedVariables false
set_option linter.unusedSimpArgs false
set_option maxRecDepth 100000
set_option maxHeartbeats 1000000
section
variable {z0 : Zc} {b : Nat} {A : Option Addr} {nn cc : Nat} {p : Int} {code : List Int}
theorem txSend_some {c : Cfg} {t : Tx} {f : Frm} {g : Bool} {ack : Int} (h : (txSend g c t ack).2 = some f) : txStops g c t = false ∧ (txSend g c t ack).1 = { txMove t with sent := t.sent + 1 } ∧ f = dataFrm ((txMove t).flight.getD t.sent.toNat part0) ((t.acked + t.sent) % 8) ack := by
  unfold txSend at h ⊢
  split at h
  · cases h
  · rename_i hs
    rw [if_neg hs]
    injection h with h
    exact ⟨by simpa using hs, rfl, h.symm⟩
theorem goWait_02 (b : Bool) : 0 ≤ goWait b ∧ goWait b ≤ 2 := by cases b <;> simp [goWait]
theorem dataFrm_ok {p : Part} {seq ack : Int} (hp : partOk p = true) (h1 : 0 ≤ seq ∧ seq ≤ 7) (h2 : 0 ≤ ack ∧ ack ≤ 7) : frmOk (dataFrm p seq ack) = true := by
  unfold partOk at hp
  simp only [frmOk, dataFrm, isNum_iff.mpr h1, isNum_iff.mpr h2, hp]
  simp
theorem sayFrm_ok {ack : Int} {poll fin : Bool} {say : Int} (h1 : 0 ≤ ack ∧ ack ≤ 7) (h2 : (poll && fin) = false) (h3 : 0 ≤ say ∧ say ≤ 2) : frmOk (sayFrm ack poll fin say) = true := by
  simp only [frmOk, sayFrm, isNum_iff.mpr h1, h2, inB_iff.mpr h3]
  simp
theorem txTick_alike {c : Cfg} {t : Tx} {ack : Int} {busy : Bool} : (txTick c t ack busy).1.count = t.count ∧ (txTick c t ack busy).1.flight = t.flight ∧ (txTick c t ack busy).1.queue = t.queue := by
  unfold txTick; split
  · exact ⟨rfl, rfl, rfl⟩
  · split <;> exact ⟨rfl, rfl, rfl⟩
theorem txTick_some {c : Cfg} {t : Tx} {ack : Int} {busy : Bool} {f : Frm} (h : (txTick c t ack busy).2 = some f) : f = sayFrm ack true false (goWait busy) := by
  unfold txTick at h
  split at h
  · cases h
  · split at h
    · cases h
    · injection h with h; exact h.symm
theorem cfg_9 {l : Nat → Bool} {s : St} (h : InvC z0 b A nn cc p l s) (hl : l 9 = false) (h8 : l 8 = true) : vcT Tryz.prog (.bsl 3 1 3 [.int .i64 0] [(0, .tmp 14), (1, .const (.int .i64 3)), (2, .const (.int .i64 8))]) (some 15) s (StpC z0 b A nn cc p l 9) := by
 have hf := h.fct 8 (by omega) h8
 have hi : isI 1 8 (gt s.t 14) := by simpa [Fct] using hf
 obtain ⟨x, hv, hx0, hx1⟩ := hi
 simp only [seval, go_sem, hv]
 refine VS.frz s.n (e := 3) (cs := [.v (.int .i64 x), .v (.int .i64 3), .v (.int .i64 8)]) (by simp [look]) rfl fun b' z' hz hr => VS.id (h.bsl 9 (sv := .c (.s s.n 0 3 3)) (by omega) hl (by simp [cnt, upd]) (by simp [nms, upd, hl, b1]; try omega) hz ?_)
 have e : subV s.n b' (.c (.s s.n 0 3 3)) = .c (.v (.slice (some ⟨b', 0, none⟩) 3 3)) := by simp [subV, subC]
 rw [e]
 simp [Fct]
 exact ⟨⟨b', 0, rfl⟩, x, hr, hx0, hx1⟩
theorem cfg_17 {l : Nat → Bool} {s : St} (h : InvC z0 b A nn cc p l s) (hl : l 17 = false) (h8 : l 16 = true) : vcT Tryz.prog (.bsl 3 1 2 [.int .i64 0] [(0, .const (.int .i64 24)), (1, .tmp 22)]) (some 23) s (StpC z0 b A nn cc p l 17) := by
 have hf := h.fct 16 (by omega) h8
 have hi : isI 1 24 (gt s.t 22) := by simpa [Fct] using hf
 obtain ⟨x, hv, hx0, hx1⟩ := hi
 simp only [seval, go_sem, hv]
 refine VS.frz s.n (e := 3) (cs := [.v (.int .i64 24), .v (.int .i64 x)]) (by simp [look]) rfl fun b' z' hz hr => VS.id (h.bsl 17 (sv := .c (.s s.n 0 2 2)) (by omega) hl (by simp [cnt, upd]) (by simp [nms, upd, hl, b1]; try omega) hz ?_)
 have e : subV s.n b' (.c (.s s.n 0 2 2)) = .c (.v (.slice (some ⟨b', 0, none⟩) 2 2)) := by simp [subV, subC]
 rw [e]
 simp [Fct]
 exact ⟨⟨b', 0, rfl⟩, x, hr, hx0, hx1⟩
theorem cfg_12 {l : Nat → Bool} {s : St} (h : InvC z0 b A nn cc p l s) (hl : l 12 = false) (h9 : l 9 = true) (h11 : l 11 = true) : vcT Tryz.prog (.iad (.tmp 15) (.tmp 17) 1) (some 18) s (StpC z0 b A nn cc p l 12) := by
 have hf := h.fct 9 (by omega) h9
 obtain ⟨B, x, hv, hB, hr, hx⟩ : ∃ A x, gt s.t 15 = .c (.v (.slice A 3 3)) ∧ IsAt A ∧ RdAt s.z A 0 [.int .i64 x, .int .i64 3, .int .i64 8] ∧ 1 ≤ x ∧ x ≤ 8 := by simpa [Fct] using hf
 have hf := h.fct 11 (by omega) h11
 have hi : isI 0 2 (gt s.t 17) := by simpa [Fct] using hf
 obtain ⟨y, hw, hy0, hy1⟩ := hi
 simp only [seval, go_sem, hv, hw]
 refine ⟨⟨hy0, by omega, hB⟩, VS.id (h.pure 12 (sv := .c (.f B (y.toNat * 1))) (by omega) hl (by simp [cnt, upd]) (by simp [nms, upd]) ?_)⟩
 have : y = 0 ∨ y = 1 ∨ y = 2 := by omega
 simp [Fct]
 rcases this with rfl | rfl | rfl
 ·exact ⟨B, 0, x, rfl, hr.cell 0 rfl, hx⟩
 ·exact ⟨B, 1, 3, rfl, hr.cell 1 rfl, by omega, by omega⟩
 ·exact ⟨B, 2, 8, rfl, hr.cell 2 rfl, by omega, by omega⟩
theorem cfg_20 {l : Nat → Bool} {s : St} (h : InvC z0 b A nn cc p l s) (hl : l 20 = false) (h9 : l 17 = true) (h11 : l 19 = true) : vcT Tryz.prog (.iad (.tmp 23) (.tmp 25) 1) (some 26) s (StpC z0 b A nn cc p l 20) := by
 have hf := h.fct 17 (by omega) h9
 obtain ⟨B, x, hv, hB, hr, hx⟩ : ∃ A x, gt s.t 23 = .c (.v (.slice A 2 2)) ∧ IsAt A ∧ RdAt s.z A 0 [.int .i64 24, .int .i64 x] ∧ 1 ≤ x ∧ x ≤ 24 := by simpa [Fct] using hf
 have hf := h.fct 19 (by omega) h11
 have hi : isI 0 1 (gt s.t 25) := by simpa [Fct] using hf
 obtain ⟨y, hw, hy0, hy1⟩ := hi
 simp only [seval, go_sem, hv, hw]
 refine ⟨⟨hy0, by omega, hB⟩, VS.id (h.pure 20 (sv := .c (.f B (y.toNat * 1))) (by omega) hl (by simp [cnt, upd]) (by simp [nms, upd]) ?_)⟩
 have : y = 0 ∨ y = 1 := by omega
 simp [Fct]
 rcases this with rfl | rfl
 ·exact ⟨B, 0, 24, rfl, hr.cell 0 rfl, by omega, by omega⟩
 ·exact ⟨B, 1, x, rfl, hr.cell 1 rfl, hx⟩
theorem cfg_13 {l : Nat → Bool} {s : St} (h : InvC z0 b A nn cc p l s) (hl : l 13 = false) (hj : l 12 = true) : vcT Tryz.prog (.ld (.tmp 18) 1 false) (some 19) s (StpC z0 b A nn cc p l 13) := by
 have hf := h.fct 12 (by omega) hj
 have hi : isF s.z 8 (gt s.t 18) := by simpa [Fct] using hf
 obtain ⟨B, o, x, hv, hr, hx0, hx1⟩ := hi
 simp only [seval, go_sem, hv]
 refine ldF.one _ (.inl hr) ?_
 exact VS.id (h.pure 13 (sv := .c (.v (.int .i64 x))) (by omega) hl (by simp [cnt, upd]) (by simp [nms, upd]) (by simp [Fct, isI]; omega))
theorem cfg_21 {l : Nat → Bool} {s : St} (h : InvC z0 b A nn cc p l s) (hl : l 21 = false) (hj : l 20 = true) : vcT Tryz.prog (.ld (.tmp 26) 1 false) (some 27) s (StpC z0 b A nn cc p l 21) := by
 have hf := h.fct 20 (by omega) hj
 have hi : isF s.z 24 (gt s.t 26) := by simpa [Fct] using hf
 obtain ⟨B, o, x, hv, hr, hx0, hx1⟩ := hi
 simp only [seval, go_sem, hv]
 refine ldF.one _ (.inl hr) ?_
 exact VS.id (h.pure 21 (sv := .c (.v (.int .i64 x))) (by omega) hl (by simp [cnt, upd]) (by simp [nms, upd]) (by simp [Fct, isI]; omega))
theorem cfg_25 {l : Nat → Bool} {s : St} (h : InvC z0 b A nn cc p l s) (hl : l 25 = false) (h2 : l 2 = true) (h5 : l 5 = true) (h13 : l 13 = true) (h21 : l 21 = true) (h24 : l 24 = true) : vcT Tryz.prog (.bld [.int .i64 0, .int .i64 0, .int .i64 0, .int .i64 0, .int .i64 0] [(0, 1, .tmp 8), (1, 1, .tmp 11), (2, 1, .tmp 19), (3, 1, .tmp 27), (4, 1, .tmp 30)]) (some 31) s (StpC z0 b A nn cc p l 25) := by
 obtain ⟨a1, v1, k1, m1⟩ : isI 1 2 (gt s.t 8) := by simpa [Fct] using h.fct 2 (by omega) h2
 obtain ⟨a2, v2, k2, m2⟩ : isI 1 4 (gt s.t 11) := by simpa [Fct] using h.fct 5 (by omega) h5
 obtain ⟨a3, v3, k3, m3⟩ : isI 1 8 (gt s.t 19) := by simpa [Fct] using h.fct 13 (by omega) h13
 obtain ⟨a4, v4, k4, m4⟩ : isI 1 24 (gt s.t 27) := by simpa [Fct] using h.fct 21 (by omega) h21
 obtain ⟨a5, v5, k5, m5⟩ : isI 1 5 (gt s.t 30) := by simpa [Fct] using h.fct 24 (by omega) h24
 simp only [seval, go_sem, v1, v2, v3, v4, v5]
 refine VS.id (h.pure 25 (sv := .a [.v (.int .i64 a1), .v (.int .i64 a2), .v (.int .i64 a3), .v (.int .i64 a4), .v (.int .i64 a5)]) (by omega) hl (by simp [cnt, upd]) (by simp [nms, upd]) ?_)
 simp only [Fct]
 simp
 exact ⟨⟨a1, a2, a3, a4, a5⟩, ⟨rfl, rfl, rfl, rfl, rfl⟩, by dsimp only; omega, ⟨k2, m2⟩, ⟨k3, m3⟩, ⟨k4, m4⟩, ⟨k5, m5⟩⟩
theorem Le.perm {s : St} {L' : Ents} (hL : LeL L' s.L) : Le s ⟨s.t, L', s.z, s.n⟩ := fun C ρ a w hs => by
 obtain ⟨F, h1, h2⟩ := hs.mem
 obtain ⟨F', h3, h4⟩ := LeL.holds hL h1
 exact ⟨ρ, hs.df, hs.fr, hs.nm, F', h3, h2.less h4⟩
theorem cfg_26 {l : Nat → Bool} {s : St} (h : InvC z0 b A nn cc p l s) (hl : l 26 = false) : vcT Tryz.prog (.alc 24 [.int .i64 0, .int .i64 0, .int .i64 0, .int .i64 0, .int .i64 0]) (some 5) s (StpC z0 b A nn cc p l 26) := by
 have hn := h.n
 have hn4 := nms_le l
 have hn1 : 1 ≤ s.n := by rw [hn]; unfold nms; omega
 simp only [seval, go_sem]
 have hL : s.L = [(1000, .own (starL [rdA b A nn cc (p + cnt l)])), (0, .cells 24 z5)] ∧ l 27 = false := by
  rcases h.L with ⟨_, h2, h3⟩ | ⟨h1, _⟩ | ⟨h1, _⟩
  ·exact ⟨h3, h2⟩
  ·rw [h1] at hl; cases hl
  ·rw [h1 26 (by omega)] at hl; cases hl
 rw [hL.1]
 refine VS.le (Le.perm (L' := [(1000, .own (starL [rdA b A nn cc (p + cnt l)])), (s.n, .cells 24 z5), (0, .cells 24 z5)]) ?_) ?_
 ·simp [LeL, look, del, show s.n ≠ 1000 by omega, show s.n ≠ 0 by omega]
 ·have hc : cnt (upd l 26) = cnt l := by simp [cnt, upd]
  refine ⟨h.z, by simp [nms, upd, hl, b1] at hn ⊢; omega, by rw [st_len]; exact h.len, ?_, ?_, ?_, fun j hj hlj => ?_, ?_⟩
  ·rw [gt_st_ne _ (by omega)]; exact h.g0
  ·rw [gt_st_ne _ (by omega)]; exact h.g1
  ·rw [gt_st_ne _ (by omega)]; exact h.g4
  ·rw [gt_st_ne _ (by omega)]; rw [upd_ne l (by omega)] at hlj; exact h.fct j hj hlj
  ·rw [hc]
   exact .inr (.inl ⟨upd_eq _ _, by rw [upd_ne l (by omega)]; exact hL.2, s.n, hn1, by dsimp only; omega, by rw [gt_st_eq _ (by rw [h.len]; omega)], rfl⟩)
theorem cfg_27 {l : Nat → Bool} {s : St} (h : InvC z0 b A nn cc p l s) (hl : l 27 = false) (ha : ∀ j, j < 27 → l j = true) : vcT Tryz.prog (.sto (.tmp 5) (.tmp 31) 5) none s (StpC z0 b A nn cc p l 27) := by
 have hn := h.n
 have hn4 := nms_le l
 obtain ⟨c, hv, hc⟩ : ∃ c : Cfg, gt s.t 31 = .a [.v (.int .i64 c.mode), .v (.int .i64 c.win), .v (.int .i64 c.mps), .v (.int .i64 c.mtu), .v (.int .i64 c.tri)] ∧ CfgI c := by simpa [Fct] using h.fct 25 (by omega) (ha 25 (by omega))
 obtain ⟨k, hk1, hk2, g5, hL⟩ : ∃ k, 1 ≤ k ∧ k < s.n ∧ gt s.t 5 = .c (.p k 0) ∧ s.L = [(1000, .own (starL [rdA b A nn cc (p + cnt l)])), (k, .cells 24 z5), (0, .cells 24 z5)] := by
  rcases h.L with ⟨h1, _⟩ | ⟨_, _, k, h3⟩ | ⟨h1, _⟩
  ·rw [ha 26 (by omega)] at h1; cases h1
  ·exact ⟨k, h3⟩
  ·rw [h1 27 (by omega)] at hl; cases hl
 simp only [seval, go_sem, g5, hv, hL]
 have e1 : (1000 = k) = False := by simp; omega
 simp only [seval, go_sem, e1]
 have e2 : del k s.L = [(1000, .own (starL [rdA b A nn cc (p + cnt l)])), (0, .cells 24 z5)] := by rw [hL]; simp [del, show (1000 : Nat) ≠ k by omega]
 rw [e2]
 refine VS.le (Le.perm (L' := [(1000, .own (starL [rdA b A nn cc (p + cnt l)])), (k, .cells 24 (c5 c)), (0, .cells 24 z5)]) ?_) ?_
 ·simp [LeL, look, del, show k ≠ 1000 by omega, show k ≠ 0 by omega]
 ·have hc' : cnt (upd l 27) = cnt l := by simp [cnt, upd]
  refine ⟨h.z, by simpa [nms, upd] using hn, h.len, h.g0, h.g1, h.g4, fun j hj hlj => ?_, ?_⟩
  ·rw [upd_ne l (by omega)] at hlj; exact h.fct j hj hlj
  ·rw [hc']
   refine .inr (.inr ⟨fun j hj => ?_, k, c, hk1, hk2, g5, hc, rfl⟩)
   by_cases e : j = 27
   ·subst e; exact upd_eq _ _
   ·rw [upd_ne l e]; exact ha j (by omega)
end
theorem leT_any : ∀ (l : List SV) (n : Nat), l.length = n → LeT l (List.replicate n .any)
 | [], 0, _ => trivial
 | _ :: l, n + 1, h => ⟨.inl rfl, leT_any l n (by simpa using h)⟩
 | [], n + 1, h => by cases h
 | _ :: _, 0, h => by cases h
theorem leT_st {v : SV} : ∀ {l m : List SV} {n : Nat}, LeT l m → gt l n = v → LeT l (st m n v)
 | [], [], _, h, _ => h
 | x :: l, y :: m, 0, h, e => ⟨.inr e, h.2⟩
 | x :: l, y :: m, n + 1, h, e => ⟨h.1, leT_st h.2 e⟩
 | [], _ :: _, _, h, _ => h.elim
 | _ :: _, [], _, h, _ => h.elim
theorem cfg_s (b : Nat) (A : Option Addr) (cc : Nat) (code : List Int) (p : Int) (z : Zc) (hb : By z code (.slice A code.length cc)) (hp : 0 ≤ p ∧ p ≤ 800000) (hlen : code.length ≤ 2000) :
  Spec Tryz.prog 60 [.pointer (some ⟨b, 0, none⟩), .int .i64 0] z (starL [rdA b A code.length cc p]) fun v z' A' => ∃ (c : Cfg) (p' : Int), v = vCfg c ∧ A' = starL [rdA b A code.length cc p'] ∧ CfgI c ∧ p ≤ p' ∧ p' ≤ p + 7 := by
 refine spec_mid Tryz.func60 md60_ok fr60_ok Tryz.ntmps60 (InvC z b A code.length cc p) ?_ ?_ ?_
 ·simp only [seval, go_sem]
  rw [endK_normal]
  refine VS.le (Le.perm (L' := [(1000, .own (starL [rdA b A code.length cc p])), (0, .cells 24 z5)]) ⟨rfl, rfl, trivial⟩) ?_
  refine ⟨Zc.rfl' _, rfl, rfl, rfl, rfl, rfl, fun i _ h => (by cases h), .inl ⟨rfl, rfl, ?_⟩⟩
  simp [cnt, b1, del]
 ·intro l s i r hr hI hl ha
  rcases i with _ | i
  ·obtain rfl := Option.some.inj (show some _ = some r from hr); exact cfg_0 hI hl
  rcases i with _ | i
  ·obtain rfl := Option.some.inj (show some _ = some r from hr); exact cfg_1 hI hb hp hlen hl (ha 0 (by decide))
  rcases i with _ | i
  ·obtain rfl := Option.some.inj (show some _ = some r from hr); exact cfg_2 hI hl (ha 1 (by decide))
  rcases i with _ | i
  ·obtain rfl := Option.some.inj (show some _ = some r from hr); exact cfg_3 hI hl
  rcases i with _ | i
  ·obtain rfl := Option.some.inj (show some _ = some r from hr); exact cfg_4 hI hb hp hlen hl (ha 3 (by decide))
  rcases i with _ | i
  ·obtain rfl := Option.some.inj (show some _ = some r from hr); exact cfg_5 hI hl (ha 4 (by decide))
  rcases i with _ | i
  ·obtain rfl := Option.some.inj (show some _ = some r from hr); exact cfg_6 hI hl
  rcases i with _ | i
  ·obtain rfl := Option.some.inj (show some _ = some r from hr); exact cfg_7 hI hb hp hlen hl (ha 6 (by decide))
  rcases i with _ | i
  ·obtain rfl := Option.some.inj (show some _ = some r from hr); exact cfg_8 hI hl (ha 7 (by decide))
  rcases i with _ | i
  ·obtain rfl := Option.some.inj (show some _ = some r from hr); exact cfg_9 hI hl (ha 8 (by decide))
  rcases i with _ | i
  ·obtain rfl := Option.some.inj (show some _ = some r from hr); exact cfg_10 hI hl
  rcases i with _ | i
  ·obtain rfl := Option.some.inj (show some _ = some r from hr); exact cfg_11 hI hb hp hlen hl (ha 10 (by decide))
  rcases i with _ | i
  ·obtain rfl := Option.some.inj (show some _ = some r from hr); exact cfg_12 hI hl (ha 9 (by decide)) (ha 11 (by decide))
  rcases i with _ | i
  ·obtain rfl := Option.some.inj (show some _ = some r from hr); exact cfg_13 hI hl (ha 12 (by decide))
  rcases i with _ | i
  ·obtain rfl := Option.some.inj (show some _ = some r from hr); exact cfg_14 hI hl
  rcases i with _ | i
  ·obtain rfl := Option.some.inj (show some _ = some r from hr); exact cfg_15 hI hb hp hlen hl (ha 14 (by decide))
  rcases i with _ | i
  ·obtain rfl := Option.some.inj (show some _ = some r from hr); exact cfg_16 hI hl (ha 15 (by decide))
  rcases i with _ | i
  ·obtain rfl := Option.some.inj (show some _ = some r from hr); exact cfg_17 hI hl (ha 16 (by decide))
  rcases i with _ | i
  ·obtain rfl := Option.some.inj (show some _ = some r from hr); exact cfg_18 hI hl
  rcases i with _ | i
  ·obtain rfl := Option.some.inj (show some _ = some r from hr); exact cfg_19 hI hb hp hlen hl (ha 18 (by decide))
  rcases i with _ | i
  ·obtain rfl := Option.some.inj (show some _ = some r from hr); exact cfg_20 hI hl (ha 17 (by decide)) (ha 19 (by decide))
  rcases i with _ | i
  ·obtain rfl := Option.some.inj (show some _ = some r from hr); exact cfg_21 hI hl (ha 20 (by decide))
  rcases i with _ | i
  ·obtain rfl := Option.some.inj (show some _ = some r from hr); exact cfg_22 hI hl
  rcases i with _ | i
  ·obtain rfl := Option.some.inj (show some _ = some r from hr); exact cfg_23 hI hb hp hlen hl (ha 22 (by decide))
  rcases i with _ | i
  ·obtain rfl := Option.some.inj (show some _ = some r from hr); exact cfg_24 hI hl (ha 23 (by decide))
  rcases i with _ | i
  ·obtain rfl := Option.some.inj (show some _ = some r from hr); exact cfg_25 hI hl (ha 2 (by decide)) (ha 5 (by decide)) (ha 13 (by decide)) (ha 21 (by decide)) (ha 24 (by decide))
  rcases i with _ | i
  ·obtain rfl := Option.some.inj (show some _ = some r from hr); exact cfg_26 hI hl
  rcases i with _ | i
  ·obtain rfl := Option.some.inj (show some _ = some r from hr); exact cfg_27 hI hl (fun j hj => ha j (by simp only [List.mem_cons, List.not_mem_nil, or_false]; omega))
  ·cases hr
 ·intro l s hall hI
  obtain ⟨k, c, hk1, hk2, g5, hc, hL⟩ : ∃ k c, 1 ≤ k ∧ k < s.n ∧ gt s.t 5 = .c (.p k 0) ∧ CfgI c ∧ s.L = [(1000, .own (starL [rdA b A code.length cc (p + cnt l)])), (k, .cells 24 (c5 c)), (0, .cells 24 z5)] := by
   rcases hI.L with ⟨h1, _⟩ | ⟨_, h1, _⟩ | ⟨_, h⟩
   ·rw [hall 26 (by decide)] at h1; cases h1
   ·rw [hall 27 (by decide)] at h1; cases h1
   ·exact h
  have hn4 := nms_le l
  have hc7 := cnt_le l
  have hn := hI.n
  refine VS.le (s' := ⟨updL [(0, .c (.v (.pointer (some ⟨b, 0, none⟩)))), (1, .c (.v (.int .i64 0))), (4, .c (.p 0 0)), (5, .c (.p k 0))] (List.replicate 76 .any), s.L, s.z, s.n⟩) (Le.of ?_ ?_ rfl (Nat.le_refl _) ⟨?_, ?_⟩) ?_
  ·exact leT_st (leT_st (leT_st (leT_st (leT_any _ _ hI.len) hI.g0) hI.g1) hI.g4) g5
  ·rw [hL]; simp [LeL, look, del, show k ≠ 1000 by omega, show k ≠ 0 by omega]
  ·simp [updL, st, List.replicate, SV.wf, SC.wf]; omega
  ·rw [hL]; simp [wfL, SC.wf]; omega
  ·have hk : k = 1 ∨ k = 2 ∨ k = 3 := by omega
   obtain ⟨t, L, z', n⟩ := s
   dsimp only at *
   subst hL
   have hpp : p ≤ p + (cnt l : Int) ∧ p + (cnt l : Int) ≤ p + 7 := by omega
   generalize p + (cnt l : Int) = p' at *
   rcases hk with rfl | rfl | rfl
   ·simp only [seval, go_sem, fr60]
    refine tT ?_; refine callW 1000 (odd0 b A code.length cc p' z') rfl rfl rfl rfl ?_; rintro v z1 A1 hz1 ⟨rfl, rfl, rfl⟩; refine gO ?_
    refine fQ ?_
    exact ⟨c, p', rfl, rfl, hc, by omega, by omega⟩
   ·simp only [seval, go_sem, fr60]
    refine tT ?_; refine callW 1000 (odd0 b A code.length cc p' z') rfl rfl rfl rfl ?_; rintro v z1 A1 hz1 ⟨rfl, rfl, rfl⟩; refine gO ?_
    refine fQ ?_
    exact ⟨c, p', rfl, rfl, hc, by omega, by omega⟩
   ·simp only [seval, go_sem, fr60]
    refine tT ?_; refine callW 1000 (odd0 b A code.length cc p' z') rfl rfl rfl rfl ?_; rintro v z1 A1 hz1 ⟨rfl, rfl, rfl⟩; refine gO ?_
    refine fQ ?_
    exact ⟨c, p', rfl, rfl, hc, by omega, by omega⟩
set_option maxHeartbeats 4000000
def eRep : Rep Evt where
 sz := 5
 K := fun z e cs => ∃ v, cs = [.int .i64 e.kind, .int .i64 e.who, .int .i64 e.at_, .int .i64 e.v, v] ∧ By z e.data v
 len := by rintro z x cs ⟨v, rfl, _⟩; rfl
 one := by rintro z x cs ⟨v, rfl, h⟩ u hu; simp at hu; rcases hu with rfl | rfl | rfl | rfl | rfl; rfl; rfl; rfl; rfl; exact h.one
 mono := by rintro z z' x cs hz ⟨v, rfl, h⟩; exact ⟨v, rfl, Sl.mono hz h⟩
theorem WldR.mono {z z' : Zc} {e0 e1 : End} {n0 n1 : List Msg} {m : WM} (hz : z ≤ z') (h : WldR z e0 e1 n0 n1 m) : WldR z' e0 e1 n0 n1 m := ⟨h.e0.mono hz, h.e1.mono hz, h.n0, h.n1⟩
theorem atyV : AppTy Tryz.prog 25 35 5 := AppTy.of (by kernel_rfl)
structure PlayS where
 k : Nat
 p : Int
 evs : List Evt
 cs : List Value
 A : Option Addr
 C : Nat
 e0 : End
 e1 : End
 n0 : List Msg
 n1 : List Msg
 link : Int
 m : WM
 z : Zc
theorem wldH_of {c : Cfg} {w : Wld} {u : Value} {z : Zc} {A : Asrt} (h : WldH c w u z A) (hI : WldI w) : ∃ e0 e1 n0 n1 m link, u = wldV c link m ∧ A = wldA e0 e1 n0 n1 m ∧ WldR z e0 e1 n0 n1 m ∧ WldI ⟨c, [e0, e1], [n0, n1], link⟩ := by
 obtain ⟨e0, e1, n0, n1, m, h1, h2, h3, h4, h5, h6⟩ := h
 obtain ⟨c', es, ns, link⟩ := w
 dsimp only at h1 h2 h3 h4
 subst h1 h2 h3
 exact ⟨e0, e1, n0, n1, m, link, h4, h5, h6, hI⟩
set_option maxHeartbeats 1000000
theorem txPut_fl (c : Cfg) (t : Tx) (sdu : List Int) : (txPut c t sdu).1.flight = t.flight := by unfold txPut; split; rfl; split <;> rfl
theorem l9put_n0 (c : Cfg) (link : Int) (e0 e1 : End) (n0 n1 : List Msg) (m : WM) (sdu : List Int) (v : Value) (z : Zc) (hR : WldR z e0 e1 n0 n1 m) (hI : EndI c e0) (hv : By z sdu v) (hs : sdu.length ≤ 100000) (hm : c.mode = 1) (h60 : e0.put.length < 60) :
  Spec Tryz.prog 89 [wldV c link m, .int .i64 0, v] z (wldA e0 e1 n0 n1 m) fun u z' A' => ∃ e', e' = putM c e0 sdu ∧ WldH c ⟨c, [e0, e1].set 0 e', [n0, n1], link⟩ u z' A' := by
 obtain ⟨Av, kv, rfl, hkv, hBv, hrv⟩ := hv.form
 have hq24 := hI.tx.queue
 have hmps := hI.tx.cfg.mps
 refine eL kyR k89 ?_
 refine vsI.atR 10 rfl fun hE => ?_
 have hE := hE (by omega)
 refine gO ?_
 ((first | refine ⟨⟨by omega, hE⟩, ?_⟩ | refine ⟨hE, ?_⟩); (try simp only [seval, go_sem]))
 (refine ldF.agg (sz := 28) _ rfl (by exact .inr ⟨10, _, _, _, _, _, rfl, fun i u hu => ends_get0 hu⟩) ?_; simp only [seval, go_sem, endC]; refine gO ?_)
 (with_reducible refine condI.split (fun hg => ?_) (fun hg => ?_) <;> (try simp only [hg]) <;> (try simp only [seval, go_sem]))
 ·exfalso
  simp at hg
  omega
 ·refine gO ?_
  (with_reducible refine condI.split (fun hg => ?_) (fun hg => ?_) <;> (try simp only [hg]) <;> (try simp only [seval, go_sem]))
  ·have hc := l6put c e0.tx sdu m.m0.fA m.m0.qA m.m0.fC m.m0.qC m.m0.qV _ z hv hs (by omega) (by omega) hR.e0.qu hR.e0.qc
   have hfl := txPut_fl c e0.tx sdu
   have hput : putM c e0 sdu = { e0 with tx := (txPut c e0.tx sdu).1, put := if (txPut c e0.tx sdu).2 then e0.put ++ [sdu] else e0.put } := by unfold putM; rw [if_pos hm]
   generalize txPut c e0.tx sdu = tp at hc hfl hput
   obtain ⟨⟨next, acked, fl, sent, qu, asks, tries, held, count, dead⟩, ok⟩ := tp
   dsimp only at hfl hc hput
   subst hfl
   refine tT ?_; refine callW 21 (hc) rfl rfl rfl rfl ?_; rintro u z1 A' hz1 ⟨A3, b3, ds3, rfl, rfl, hb3, hd3⟩; refine gO ?_
   have hR1 : WldR z1 e0 e1 n0 n1 m := ⟨hR.e0.mono hz1, hR.e1.mono hz1, hR.n0, hR.n1⟩
   ((first | refine ⟨⟨by omega, hE⟩, ?_⟩ | refine ⟨hE, ?_⟩); (try simp only [seval, go_sem]))
   (refine stoV_row 10 rfl rfl rfl rfl rfl rfl rfl (by rw [endsC_len]; simp) ?_; simp only [seval, go_sem, ends_tx0]; refine gO ?_)
   cases ok
   ·refine gO ?_
    refine wS ?_
    rw [hput]
    exact ⟨_, rfl, { e0 with tx := ⟨next, acked, e0.tx.flight, sent, qu, asks, tries, held, count, dead⟩ }, e1, n0, n1, { m with m0 := { m.m0 with qA := A3, qC := b3, qV := ds3 } }, rfl, rfl, rfl, rfl, rfl, ⟨{ hR1.e0 with qu := hd3, qc := hb3 }, hR1.e1, hR.n0, hR.n1⟩⟩
   ·refine gO ?_
    refine aT ?_; (refine appM_empty 99 atyB rfl (by first | exact .inl ⟨_, rfl⟩ | exact .inr ⟨_, _, rfl⟩) rfl (hrv.mono hz1) (by first | omega | (simp <;> omega)) (bc_one _) (by omega) (fun A5 c5 z5 hz5 hc5 hr5 => ?_)); dsimp only at hz5; refine gO ?_
    refine aT ?_; (refine appM_newF 22 atyS rfl rfl rfl rfl rfl rfl rfl (by simp [Value.oneCell']) (by omega) (fun A6 c6 hc6 hat6 => ?_)); refine gO ?_
    ((first | refine ⟨⟨by omega, hE⟩, ?_⟩ | refine ⟨hE, ?_⟩); (try simp only [seval, go_sem]))
    (refine stoV_row 10 rfl rfl rfl rfl rfl rfl rfl (by rw [endsC_len]; simp) ?_; refine gO ?_)
    refine wS ?_
    rw [hput, ends_put0 _ _ _ _ (e0.put ++ [sdu]) _ _ _ (by simp)]
    have hR5 : WldR z5 e0 e1 n0 n1 m := ⟨hR1.e0.mono hz5, hR1.e1.mono hz5, hR.n0, hR.n1⟩
    refine ⟨_, rfl, { e0 with tx := ⟨next, acked, e0.tx.flight, sent, qu, asks, tries, held, count, dead⟩, put := e0.put ++ [sdu] }, e1, n0, n1, { m with m0 := { m.m0 with qA := A3, qC := b3, qV := ds3, pA := A6, pC := c6, pV := m.m0.pV ++ [.slice A5 sdu.length c5] } }, rfl, rfl, rfl, rfl, ?_, ?_⟩
    ·simp only [wldA, if_true, List.length_append, List.length_singleton]
     rfl
    ·exact ⟨{ hR5.e0 with qu := hd3.mono hz5, qc := hb3, pu := hR5.e0.pu.append (Els.single (d := sduRep) ⟨_, rfl, By.mk hc5 hBv hr5⟩), pc := by simp; exact hc6 }, hR5.e1, hR.n0, hR.n1⟩
  ·exfalso
   simp [hm] at hg
theorem l9put_n1 (c : Cfg) (link : Int) (e0 e1 : End) (n0 n1 : List Msg) (m : WM) (sdu : List Int) (v : Value) (z : Zc) (hR : WldR z e0 e1 n0 n1 m) (hI : EndI c e1) (hv : By z sdu v) (hs : sdu.length ≤ 100000) (hm : c.mode = 1) (h60 : e1.put.length < 60) :
  Spec Tryz.prog 89 [wldV c link m, .int .i64 1, v] z (wldA e0 e1 n0 n1 m) fun u z' A' => ∃ e', e' = putM c e1 sdu ∧ WldH c ⟨c, [e0, e1].set 1 e', [n0, n1], link⟩ u z' A' := by
 obtain ⟨Av, kv, rfl, hkv, hBv, hrv⟩ := hv.form
 have hq24 := hI.tx.queue
 have hmps := hI.tx.cfg.mps
 refine eL kyR k89 ?_
 refine vsI.atR 10 rfl fun hE => ?_
 have hE := hE (by omega)
 refine gO ?_
 ((first | refine ⟨⟨by omega, hE⟩, ?_⟩ | refine ⟨hE, ?_⟩); (try simp only [seval, go_sem]))
 (refine ldF.agg (sz := 28) _ rfl (by exact .inr ⟨10, _, _, _, _, _, rfl, fun i u hu => ends_get1 hu⟩) ?_; simp only [seval, go_sem, endC]; refine gO ?_)
 (with_reducible refine condI.split (fun hg => ?_) (fun hg => ?_) <;> (try simp only [hg]) <;> (try simp only [seval, go_sem]))
 ·exfalso
  simp at hg
  omega
 ·refine gO ?_
  (with_reducible refine condI.split (fun hg => ?_) (fun hg => ?_) <;> (try simp only [hg]) <;> (try simp only [seval, go_sem]))
  ·have hc := l6put c e1.tx sdu m.m1.fA m.m1.qA m.m1.fC m.m1.qC m.m1.qV _ z hv hs (by omega) (by omega) hR.e1.qu hR.e1.qc
   have hfl := txPut_fl c e1.tx sdu
   have hput : putM c e1 sdu = { e1 with tx := (txPut c e1.tx sdu).1, put := if (txPut c e1.tx sdu).2 then e1.put ++ [sdu] else e1.put } := by unfold putM; rw [if_pos hm]
   generalize txPut c e1.tx sdu = tp at hc hfl hput
   obtain ⟨⟨next, acked, fl, sent, qu, asks, tries, held, count, dead⟩, ok⟩ := tp
   dsimp only at hfl hc hput
   subst hfl
   refine tT ?_; refine callW 31 (hc) rfl rfl rfl rfl ?_; rintro u z1 A' hz1 ⟨A3, b3, ds3, rfl, rfl, hb3, hd3⟩; refine gO ?_
   have hR1 : WldR z1 e0 e1 n0 n1 m := ⟨hR.e0.mono hz1, hR.e1.mono hz1, hR.n0, hR.n1⟩
   ((first | refine ⟨⟨by omega, hE⟩, ?_⟩ | refine ⟨hE, ?_⟩); (try simp only [seval, go_sem]))
   (refine stoV_row 10 rfl rfl rfl rfl rfl rfl rfl (by rw [endsC_len]; simp) ?_; simp only [seval, go_sem, ends_tx1]; refine gO ?_)
   cases ok
   ·refine gO ?_
    refine wS ?_
    rw [hput]
    exact ⟨_, rfl, e0, { e1 with tx := ⟨next, acked, e1.tx.flight, sent, qu, asks, tries, held, count, dead⟩ }, n0, n1, { m with m1 := { m.m1 with qA := A3, qC := b3, qV := ds3 } }, rfl, rfl, rfl, rfl, rfl, ⟨hR1.e0, { hR1.e1 with qu := hd3, qc := hb3 }, hR.n0, hR.n1⟩⟩
   ·refine gO ?_
    refine aT ?_; (refine appM_empty 99 atyB rfl (by first | exact .inl ⟨_, rfl⟩ | exact .inr ⟨_, _, rfl⟩) rfl (hrv.mono hz1) (by first | omega | (simp <;> omega)) (bc_one _) (by omega) (fun A5 c5 z5 hz5 hc5 hr5 => ?_)); dsimp only at hz5; refine gO ?_
    refine aT ?_; (refine appM_newF 32 atyS rfl rfl rfl rfl rfl rfl rfl (by simp [Value.oneCell']) (by omega) (fun A6 c6 hc6 hat6 => ?_)); refine gO ?_
    ((first | refine ⟨⟨by omega, hE⟩, ?_⟩ | refine ⟨hE, ?_⟩); (try simp only [seval, go_sem]))
    (refine stoV_row 10 rfl rfl rfl rfl rfl rfl rfl (by rw [endsC_len]; simp) ?_; refine gO ?_)
    refine wS ?_
    rw [hput, ends_put1 _ _ _ _ (e1.put ++ [sdu]) _ _ _ (by simp)]
    have hR5 : WldR z5 e0 e1 n0 n1 m := ⟨hR1.e0.mono hz5, hR1.e1.mono hz5, hR.n0, hR.n1⟩
    refine ⟨_, rfl, e0, { e1 with tx := ⟨next, acked, e1.tx.flight, sent, qu, asks, tries, held, count, dead⟩, put := e1.put ++ [sdu] }, n0, n1, { m with m1 := { m.m1 with qA := A3, qC := b3, qV := ds3, pA := A6, pC := c6, pV := m.m1.pV ++ [.slice A5 sdu.length c5] } }, rfl, rfl, rfl, rfl, ?_, ?_⟩
    ·simp only [wldA, if_true, List.length_append, List.length_singleton]
     rfl
    ·exact ⟨hR5.e0, { hR5.e1 with qu := hd3.mono hz5, qc := hb3, pu := hR5.e1.pu.append (Els.single (d := sduRep) ⟨_, rfl, By.mk hc5 hBv hr5⟩), pc := by simp; exact hc6 }, hR.n0, hR.n1⟩
  ·exfalso
   simp [hm] at hg
theorem txSend_frm {g : Bool} {c : Cfg} {t : Tx} {ack : Int} {f : Frm} (h : TxI c t) (hl : Low t) (hk : 0 ≤ ack ∧ ack ≤ 7) (hf : (txSend g c t ack).2 = some f) : frmOk f = true ∧ f.data.length ≤ 8 := by
 obtain ⟨h1, h2, h3⟩ := txSend_some hf
 obtain ⟨k1, k2, k3, k4⟩ := txStops_no h1
 obtain ⟨m1, m2, m3, m4⟩ := txMove_ok h hl k4
 have hse := h.sent
 have hlt : t.sent.toNat < (txMove t).flight.length := by omega
 have hg : (txMove t).flight.getD t.sent.toNat part0 ∈ (txMove t).flight := by
  rw [List.getD_eq_getElem?_getD, List.getElem?_eq_getElem hlt]; exact List.getElem_mem hlt
 have hp := m1.fl _ hg
 have hm := h.cfg.mps
 rw [h3]
 exact ⟨dataFrm_ok hp.1 (by omega) hk, by simp only [dataFrm]; omega⟩
theorem l9send_n0 (c : Cfg) (link : Int) (e0 e1 : End) (n0 n1 : List Msg) (m : WM) (z : Zc) (hR : WldR z e0 e1 n0 n1 m) (hI : EndI c e0) (hm : c.mode = 1) (h30 : n1.length ≤ 30) :
  Spec Tryz.prog 90 [wldV c link m, .int .i64 0] z (wldA e0 e1 n0 n1 m) (WldH c (if n1.length < 30 then sayO ⟨c, [e0, e1].set 0 { e0 with tx := (txSend true c e0.tx e0.rx.expect).1 }, [n0, n1], link⟩ 0 (txSend true c e0.tx e0.rx.expect).2 else ⟨c, [e0, e1], [n0, n1], link⟩)) := by
 have hx7 := hI.rx.expect
 refine eL kyR k90 ?_
 refine vsI.atR 10 rfl fun hE => ?_
 have hE := hE (by omega)
 refine vsI.atR 11 rfl fun hN => ?_
 have hN := hN (by omega)
 refine gO ?_
 ((first | refine ⟨⟨by omega, hE⟩, ?_⟩ | refine ⟨hE, ?_⟩); (try simp only [seval, go_sem]))
 (refine ldF.agg (sz := 28) _ rfl (by exact .inr ⟨10, _, _, _, _, _, rfl, fun i u hu => ends_get0 hu⟩) ?_; simp only [seval, go_sem, endC]; refine gO ?_)
 simp only [wr10]
 simp only [seval, go_sem]
 ((first | refine ⟨⟨by omega, hN⟩, ?_⟩ | refine ⟨hN, ?_⟩); (try simp only [seval, go_sem]))
 (refine ldF.one _ (RdS.cell 11 rfl rfl) ?_; refine gO ?_)
 (with_reducible refine condI.split (fun hg => ?_) (fun hg => ?_) <;> (try simp only [hg]) <;> (try simp only [seval, go_sem]))
 ·rw [if_neg (by simp at hg; omega)]
  refine gO ?_
  refine wS ?_
  exact ⟨e0, e1, n0, n1, m, rfl, rfl, rfl, rfl, rfl, hR⟩
 ·rw [if_pos (by simp at hg; omega)]
  refine gO ?_
  (with_reducible refine condI.split (fun hg => ?_) (fun hg => ?_) <;> (try simp only [hg]) <;> (try simp only [seval, go_sem]))
  ·have hfr := fun f => @txSend_frm true c e0.tx e0.rx.expect f hI.tx hI.low hx7
   have hc := l6send c e0.tx m.m0.fA m.m0.qA m.m0.fC m.m0.qC m.m0.fV m.m0.qV e0.rx.expect z hI.tx hR.e0.fl hR.e0.qu hR.e0.fc hR.e0.qc hx7
   generalize txSend true c e0.tx e0.rx.expect = tp at hc hfr ⊢
   obtain ⟨⟨next, acked, fl, sent, qu, asks, tries, held, count, dead⟩, o⟩ := tp
   dsimp only at hc hfr ⊢
   refine gO ?_
   refine tT ?_; (refine callM.pk 98 [20, 21] ?_); dsimp only
   refine tT ?_; refine callW 98 (hc) rfl rfl rfl rfl ?_; rintro u z1 A' hz1 ⟨A3, B3, a3, b3, cs3, ds3, _, rfl, rfl, ⟨Ax, kx, csx, rfl, hkx, hex, hrx⟩, ha3, hb3, he3, hd3⟩; refine gO ?_
   have hR1 : WldR z1 e0 e1 n0 n1 m := ⟨hR.e0.mono hz1, hR.e1.mono hz1, hR.n0, hR.n1⟩
   ((first | refine ⟨⟨by omega, hE⟩, ?_⟩ | refine ⟨hE, ?_⟩); (try simp only [seval, go_sem]))
   (refine stoV_row 10 rfl rfl rfl rfl rfl rfl rfl (by rw [endsC_len]; simp) ?_; simp only [seval, go_sem, ends_tx0]; refine gO ?_)
   have hR2 : WldR z1 { e0 with tx := ⟨next, acked, fl, sent, qu, asks, tries, held, count, dead⟩ } e1 n0 n1 { m with m0 := { m.m0 with fA := A3, fC := a3, fV := cs3, qA := B3, qC := b3, qV := ds3 } } := ⟨{ hR1.e0 with fl := he3, fc := ha3, qu := hd3, qc := hb3 }, hR1.e1, hR.n0, hR.n1⟩
   cases o with
   | none =>
    simp only [Option.isSome_none, Option.getD_none]
    simp only [seval, go_sem]
    refine gO ?_
    (refine FinV.tf (Tf.open' 98 [20, 21] rfl rfl rfl) ?_); simp only [seval, go_sem, zipL]
    refine wS ?_
    exact ⟨_, _, n0, n1, { m with m0 := { m.m0 with fA := A3, fC := a3, fV := cs3, qA := B3, qC := b3, qV := ds3 } }, rfl, rfl, rfl, rfl, rfl, hR2⟩
   | some f =>
    obtain ⟨hf, hfl⟩ := hfr f rfl
    simp only [Option.isSome_some, Option.getD_some] at hex hrx hkx ⊢
    simp only [seval, go_sem]
    refine gO ?_
    simp only [wr10]
    (refine tT ?_; refine callM.tf (Tf.open' 98 [20, 21] rfl rfl rfl) ?_); simp only [seval, go_sem, zipL]
    refine wT ?_
    refine tT ?_; refine callW 999 (l9way1 c link { e0 with tx := ⟨next, acked, fl, sent, qu, asks, tries, held, count, dead⟩ } e1 n0 n1 { m with m0 := { m.m0 with fA := A3, fC := a3, fV := cs3, qA := B3, qC := b3, qV := ds3 } } f (.slice Ax f.data.length kx) z1 hR2 (by omega) hf ⟨Ax, kx, csx, rfl, hkx, hex, hrx⟩ (by omega)) rfl rfl rfl rfl ?_; rintro v z2 A' hz2 ⟨f0, f1, g0, g1, m', hw1, hw2, hw3, rfl, rfl, hR3⟩; refine gO ?_
    refine fP ?_
    exact ⟨f0, f1, g0, g1, m', hw1, hw2, hw3, rfl, rfl, hR3⟩
  ·exfalso
   simp [hm] at hg
theorem l9send_n1 (c : Cfg) (link : Int) (e0 e1 : End) (n0 n1 : List Msg) (m : WM) (z : Zc) (hR : WldR z e0 e1 n0 n1 m) (hI : EndI c e1) (hm : c.mode = 1) (h30 : n0.length ≤ 30) :
  Spec Tryz.prog 90 [wldV c link m, .int .i64 1] z (wldA e0 e1 n0 n1 m) (WldH c (if n0.length < 30 then sayO ⟨c, [e0, e1].set 1 { e1 with tx := (txSend true c e1.tx e1.rx.expect).1 }, [n0, n1], link⟩ 1 (txSend true c e1.tx e1.rx.expect).2 else ⟨c, [e0, e1], [n0, n1], link⟩)) := by
 have hx7 := hI.rx.expect
 refine eL kyR k90 ?_
 refine vsI.atR 10 rfl fun hE => ?_
 have hE := hE (by omega)
 refine vsI.atR 11 rfl fun hN => ?_
 have hN := hN (by omega)
 refine gO ?_
 ((first | refine ⟨⟨by omega, hE⟩, ?_⟩ | refine ⟨hE, ?_⟩); (try simp only [seval, go_sem]))
 (refine ldF.agg (sz := 28) _ rfl (by exact .inr ⟨10, _, _, _, _, _, rfl, fun i u hu => ends_get1 hu⟩) ?_; simp only [seval, go_sem, endC]; refine gO ?_)
 simp only [wr11]
 simp only [seval, go_sem]
 ((first | refine ⟨⟨by omega, hN⟩, ?_⟩ | refine ⟨hN, ?_⟩); (try simp only [seval, go_sem]))
 (refine ldF.one _ (RdS.cell 11 rfl rfl) ?_; refine gO ?_)
 (with_reducible refine condI.split (fun hg => ?_) (fun hg => ?_) <;> (try simp only [hg]) <;> (try simp only [seval, go_sem]))
 ·rw [if_neg (by simp at hg; omega)]
  refine gO ?_
  refine wS ?_
  exact ⟨e0, e1, n0, n1, m, rfl, rfl, rfl, rfl, rfl, hR⟩
 ·rw [if_pos (by simp at hg; omega)]
  refine gO ?_
  (with_reducible refine condI.split (fun hg => ?_) (fun hg => ?_) <;> (try simp only [hg]) <;> (try simp only [seval, go_sem]))
  ·have hfr := fun f => @txSend_frm true c e1.tx e1.rx.expect f hI.tx hI.low hx7
   have hc := l6send c e1.tx m.m1.fA m.m1.qA m.m1.fC m.m1.qC m.m1.fV m.m1.qV e1.rx.expect z hI.tx hR.e1.fl hR.e1.qu hR.e1.fc hR.e1.qc hx7
   generalize txSend true c e1.tx e1.rx.expect = tp at hc hfr ⊢
   obtain ⟨⟨next, acked, fl, sent, qu, asks, tries, held, count, dead⟩, o⟩ := tp
   dsimp only at hc hfr ⊢
   refine gO ?_
   refine tT ?_; (refine callM.pk 98 [30, 31] ?_); dsimp only
   refine tT ?_; refine callW 98 (hc) rfl rfl rfl rfl ?_; rintro u z1 A' hz1 ⟨A3, B3, a3, b3, cs3, ds3, _, rfl, rfl, ⟨Ax, kx, csx, rfl, hkx, hex, hrx⟩, ha3, hb3, he3, hd3⟩; refine gO ?_
   have hR1 : WldR z1 e0 e1 n0 n1 m := ⟨hR.e0.mono hz1, hR.e1.mono hz1, hR.n0, hR.n1⟩
   ((first | refine ⟨⟨by omega, hE⟩, ?_⟩ | refine ⟨hE, ?_⟩); (try simp only [seval, go_sem]))
   (refine stoV_row 10 rfl rfl rfl rfl rfl rfl rfl (by rw [endsC_len]; simp) ?_; simp only [seval, go_sem, ends_tx1]; refine gO ?_)
   have hR2 : WldR z1 e0 { e1 with tx := ⟨next, acked, fl, sent, qu, asks, tries, held, count, dead⟩ } n0 n1 { m with m1 := { m.m1 with fA := A3, fC := a3, fV := cs3, qA := B3, qC := b3, qV := ds3 } } := ⟨hR1.e0, { hR1.e1 with fl := he3, fc := ha3, qu := hd3, qc := hb3 }, hR.n0, hR.n1⟩
   cases o with
   | none =>
    simp only [Option.isSome_none, Option.getD_none]
    simp only [seval, go_sem]
    refine gO ?_
    (refine FinV.tf (Tf.open' 98 [30, 31] rfl rfl rfl) ?_); simp only [seval, go_sem, zipL]
    refine wS ?_
    exact ⟨_, _, n0, n1, { m with m1 := { m.m1 with fA := A3, fC := a3, fV := cs3, qA := B3, qC := b3, qV := ds3 } }, rfl, rfl, rfl, rfl, rfl, hR2⟩
   | some f =>
    obtain ⟨hf, hfl⟩ := hfr f rfl
    simp only [Option.isSome_some, Option.getD_some] at hex hrx hkx ⊢
    simp only [seval, go_sem]
    refine gO ?_
    simp only [wr11]
    (refine tT ?_; refine callM.tf (Tf.open' 98 [30, 31] rfl rfl rfl) ?_); simp only [seval, go_sem, zipL]
    refine wT ?_
    refine tT ?_; refine callW 999 (l9way0 c link e0 { e1 with tx := ⟨next, acked, fl, sent, qu, asks, tries, held, count, dead⟩ } n0 n1 { m with m1 := { m.m1 with fA := A3, fC := a3, fV := cs3, qA := B3, qC := b3, qV := ds3 } } f (.slice Ax f.data.length kx) z1 hR2 (by omega) hf ⟨Ax, kx, csx, rfl, hkx, hex, hrx⟩ (by omega)) rfl rfl rfl rfl ?_; rintro v z2 A' hz2 ⟨f0, f1, g0, g1, m', hw1, hw2, hw3, rfl, rfl, hR3⟩; refine gO ?_
    refine fP ?_
    exact ⟨f0, f1, g0, g1, m', hw1, hw2, hw3, rfl, rfl, hR3⟩
  ·exfalso
   simp [hm] at hg
theorem txTick_frm {c : Cfg} {t : Tx} {ack : Int} {b : Bool} {f : Frm} (hk : 0 ≤ ack ∧ ack ≤ 7) (hf : (txTick c t ack b).2 = some f) : frmOk f = true ∧ f.data.length ≤ 8 := by
 rw [txTick_some hf]
 exact ⟨sayFrm_ok hk rfl (goWait_02 b), by simp [sayFrm]⟩
theorem l9tick_n0 (c : Cfg) (link : Int) (e0 e1 : End) (n0 n1 : List Msg) (m : WM) (z : Zc) (hR : WldR z e0 e1 n0 n1 m) (hI : EndI c e0) (hm : c.mode = 1) (h30 : n1.length ≤ 30) :
  Spec Tryz.prog 91 [wldV c link m, .int .i64 0] z (wldA e0 e1 n0 n1 m) (WldH c (sayO ⟨c, [e0, e1].set 0 { e0 with tx := (txTick c e0.tx e0.rx.expect e0.rx.busy).1 }, [n0, n1], link⟩ 0 (txTick c e0.tx e0.rx.expect e0.rx.busy).2)) := by
 have hx7 := hI.rx.expect
 have htr := hI.tx.tries
 have hct := hI.tx.cfg.tri
 refine eL kyR k91 ?_
 refine vsI.atR 10 rfl fun hE => ?_
 have hE := hE (by omega)
 refine gO ?_
 ((first | refine ⟨⟨by omega, hE⟩, ?_⟩ | refine ⟨hE, ?_⟩); (try simp only [seval, go_sem]))
 (refine ldF.agg (sz := 28) _ rfl (by exact .inr ⟨10, _, _, _, _, _, rfl, fun i u hu => ends_get0 hu⟩) ?_; simp only [seval, go_sem, endC]; refine gO ?_)
 (with_reducible refine condI.split (fun hg => ?_) (fun hg => ?_) <;> (try simp only [hg]) <;> (try simp only [seval, go_sem]))
 ·exfalso
  simp [hm] at hg
 ·refine gO ?_
  have hfr := fun f => @txTick_frm c e0.tx e0.rx.expect e0.rx.busy f hx7
  have hal := @txTick_alike c e0.tx e0.rx.expect e0.rx.busy
  have hc := l6tick c e0.tx m.m0.fA m.m0.qA e0.tx.queue.length m.m0.fC m.m0.qC e0.rx.expect e0.rx.busy z (by omega)
  generalize txTick c e0.tx e0.rx.expect e0.rx.busy = tp at hc hfr hal ⊢
  obtain ⟨⟨next, acked, fl, sent, qu, asks, tries, held, count, dead⟩, o⟩ := tp
  dsimp only at hc hfr hal ⊢
  obtain ⟨-, rfl, rfl⟩ := hal
  refine tT ?_; refine callP (hc) rfl rfl ?_; rintro u z1 hz1 ⟨_, rfl, ⟨Ax, kx, csx, rfl, hkx, hex, hrx⟩⟩; refine gO ?_
  have hR1 : WldR z1 e0 e1 n0 n1 m := ⟨hR.e0.mono hz1, hR.e1.mono hz1, hR.n0, hR.n1⟩
  ((first | refine ⟨⟨by omega, hE⟩, ?_⟩ | refine ⟨hE, ?_⟩); (try simp only [seval, go_sem]))
  (refine stoV_row 10 rfl rfl rfl rfl rfl rfl rfl (by rw [endsC_len]; simp) ?_; simp only [seval, go_sem, ends_tx0]; refine gO ?_)
  have hR2 : WldR z1 { e0 with tx := ⟨next, acked, e0.tx.flight, sent, e0.tx.queue, asks, tries, held, count, dead⟩ } e1 n0 n1 m := ⟨{ hR1.e0 with fl := hR1.e0.fl }, hR1.e1, hR.n0, hR.n1⟩
  cases o with
  | none =>
   simp only [Option.isSome_none, Option.getD_none]
   simp only [seval, go_sem]
   refine gO ?_
   refine wS ?_
   exact ⟨_, _, n0, n1, m, rfl, rfl, rfl, rfl, rfl, hR2⟩
  | some f =>
   obtain ⟨hf, hfl⟩ := hfr f rfl
   simp only [Option.isSome_some, Option.getD_some] at hex hrx hkx ⊢
   simp only [seval, go_sem]
   refine gO ?_
   simp only [wr10]
   refine wT ?_
   refine tT ?_; refine callW 999 (l9way1 c link { e0 with tx := ⟨next, acked, e0.tx.flight, sent, e0.tx.queue, asks, tries, held, count, dead⟩ } e1 n0 n1 m f (.slice Ax f.data.length kx) z1 hR2 (by omega) hf ⟨Ax, kx, csx, rfl, hkx, hex, hrx⟩ (by omega)) rfl rfl rfl rfl ?_; rintro v z2 A' hz2 ⟨f0, f1, g0, g1, m', hw1, hw2, hw3, rfl, rfl, hR3⟩; refine gO ?_
   refine fP ?_
   exact ⟨f0, f1, g0, g1, m', hw1, hw2, hw3, rfl, rfl, hR3⟩
theorem l9tick_n1 (c : Cfg) (link : Int) (e0 e1 : End) (n0 n1 : List Msg) (m : WM) (z : Zc) (hR : WldR z e0 e1 n0 n1 m) (hI : EndI c e1) (hm : c.mode = 1) (h30 : n0.length ≤ 30) :
  Spec Tryz.prog 91 [wldV c link m, .int .i64 1] z (wldA e0 e1 n0 n1 m) (WldH c (sayO ⟨c, [e0, e1].set 1 { e1 with tx := (txTick c e1.tx e1.rx.expect e1.rx.busy).1 }, [n0, n1], link⟩ 1 (txTick c e1.tx e1.rx.expect e1.rx.busy).2)) := by
 have hx7 := hI.rx.expect
 have htr := hI.tx.tries
 have hct := hI.tx.cfg.tri
 refine eL kyR k91 ?_
 refine vsI.atR 10 rfl fun hE => ?_
 have hE := hE (by omega)
 refine gO ?_
 ((first | refine ⟨⟨by omega, hE⟩, ?_⟩ | refine ⟨hE, ?_⟩); (try simp only [seval, go_sem]))
 (refine ldF.agg (sz := 28) _ rfl (by exact .inr ⟨10, _, _, _, _, _, rfl, fun i u hu => ends_get1 hu⟩) ?_; simp only [seval, go_sem, endC]; refine gO ?_)
 (with_reducible refine condI.split (fun hg => ?_) (fun hg => ?_) <;> (try simp only [hg]) <;> (try simp only [seval, go_sem]))
 ·exfalso
  simp [hm] at hg
 ·refine gO ?_
  have hfr := fun f => @txTick_frm c e1.tx e1.rx.expect e1.rx.busy f hx7
  have hal := @txTick_alike c e1.tx e1.rx.expect e1.rx.busy
  have hc := l6tick c e1.tx m.m1.fA m.m1.qA e1.tx.queue.length m.m1.fC m.m1.qC e1.rx.expect e1.rx.busy z (by omega)
  generalize txTick c e1.tx e1.rx.expect e1.rx.busy = tp at hc hfr hal ⊢
  obtain ⟨⟨next, acked, fl, sent, qu, asks, tries, held, count, dead⟩, o⟩ := tp
  dsimp only at hc hfr hal ⊢
  obtain ⟨-, rfl, rfl⟩ := hal
  refine tT ?_; refine callP (hc) rfl rfl ?_; rintro u z1 hz1 ⟨_, rfl, ⟨Ax, kx, csx, rfl, hkx, hex, hrx⟩⟩; refine gO ?_
  have hR1 : WldR z1 e0 e1 n0 n1 m := ⟨hR.e0.mono hz1, hR.e1.mono hz1, hR.n0, hR.n1⟩
  ((first | refine ⟨⟨by omega, hE⟩, ?_⟩ | refine ⟨hE, ?_⟩); (try simp only [seval, go_sem]))
  (refine stoV_row 10 rfl rfl rfl rfl rfl rfl rfl (by rw [endsC_len]; simp) ?_; simp only [seval, go_sem, ends_tx1]; refine gO ?_)
  have hR2 : WldR z1 e0 { e1 with tx := ⟨next, acked, e1.tx.flight, sent, e1.tx.queue, asks, tries, held, count, dead⟩ } n0 n1 m := ⟨hR1.e0, { hR1.e1 with fl := hR1.e1.fl }, hR.n0, hR.n1⟩
  cases o with
  | none =>
   simp only [Option.isSome_none, Option.getD_none]
   simp only [seval, go_sem]
   refine gO ?_
   refine wS ?_
   exact ⟨_, _, n0, n1, m, rfl, rfl, rfl, rfl, rfl, hR2⟩
  | some f =>
   obtain ⟨hf, hfl⟩ := hfr f rfl
   simp only [Option.isSome_some, Option.getD_some] at hex hrx hkx ⊢
   simp only [seval, go_sem]
   refine gO ?_
   simp only [wr11]
   refine wT ?_
   refine tT ?_; refine callW 999 (l9way0 c link e0 { e1 with tx := ⟨next, acked, e1.tx.flight, sent, e1.tx.queue, asks, tries, held, count, dead⟩ } n0 n1 m f (.slice Ax f.data.length kx) z1 hR2 (by omega) hf ⟨Ax, kx, csx, rfl, hkx, hex, hrx⟩ (by omega)) rfl rfl rfl rfl ?_; rintro v z2 A' hz2 ⟨f0, f1, g0, g1, m', hw1, hw2, hw3, rfl, rfl, hR3⟩; refine gO ?_
   refine fP ?_
   exact ⟨f0, f1, g0, g1, m', hw1, hw2, hw3, rfl, rfl, hR3⟩
theorem wldH_eq {c : Cfg} {w : Wld} {u : Value} {z : Zc} {A : Asrt} (h : WldH c w u z A) : ∃ e0 e1 n0 n1 m link, w = ⟨c, [e0, e1], [n0, n1], link⟩ ∧ u = wldV c link m ∧ A = wldA e0 e1 n0 n1 m ∧ WldR z e0 e1 n0 n1 m := by
 obtain ⟨e0, e1, n0, n1, m, h1, h2, h3, h4, h5, h6⟩ := h
 obtain ⟨c', es, ns, link⟩ := w
 dsimp only at h1 h2 h3 h4
 subst h1 h2 h3
 exact ⟨e0, e1, n0, n1, m, link, rfl, h4, h5, h6⟩
theorem WldH.mk {c : Cfg} {e0 e1 : End} {n0 n1 : List Msg} {m : WM} {link : Int} {z : Zc} (h : WldR z e0 e1 n0 n1 m) : WldH c ⟨c, [e0, e1], [n0, n1], link⟩ (wldV c link m) z (wldA e0 e1 n0 n1 m) := ⟨e0, e1, n0, n1, m, rfl, rfl, rfl, rfl, rfl, h⟩
theorem say1_30 {c : Cfg} {e0 e1 f0 f1 : End} {n0 n1 g0 g1 : List Msg} {l l' : Int} {i : Nat} {f : Frm} (h : say1 ⟨c, [e0, e1], [n0, n1], l⟩ i f = ⟨c, [f0, f1], [g0, g1], l'⟩) (h0 : n0.length ≤ 30) (h1 : n1.length ≤ 30) : g0.length ≤ 30 ∧ g1.length ≤ 30 := by
 unfold say1 at h
 by_cases hl : (netAt ⟨c, [e0, e1], [n0, n1], l⟩ (1 - i)).length < 30
 ·rw [if_pos hl] at h
  injection h with _ _ h _
  rcases Nat.lt_or_ge (1 - i) 1 with hi | hi
  ·have e : 1 - i = 0 := by omega
   rw [e] at h hl
   have hl' : n0.length < 30 := hl
   have h' : [n0 ++ [⟨false, frmBytes f⟩], n1] = [g0, g1] := h
   injection h' with h2 h3
   injection h3 with h3 _
   subst h2; subst h3
   simp; omega
  ·have e : 1 - i = 1 := by omega
   rw [e] at h hl
   have hl' : n1.length < 30 := hl
   have h' : [n0, n1 ++ [⟨false, frmBytes f⟩]] = [g0, g1] := h
   injection h' with h2 h3
   injection h3 with h3 _
   subst h2; subst h3
   simp; omega
 ·rw [if_neg hl] at h
  injection h with _ _ h _
  injection h with h2 h3
  injection h3 with h3 _
  subst h2; subst h3
  exact ⟨h0, h1⟩
theorem says_take {w : Wld} {who : Nat} {l : List Frm} {i : Nat} {x : Frm} (h : l[i]? = some x) : says w who (l.take (i + 1)) = say1 (says w who (l.take i)) who x := by
 unfold says
 rw [List.take_add_one, h, List.foldl_append]
 rfl
structure WaysS where
 i : Nat
 e0 : End
 e1 : End
 n0 : List Msg
 n1 : List Msg
 link : Int
 m : WM
 z : Zc
theorem l9ways0 (c : Cfg) (link : Int) (e0 e1 : End) (n0 n1 : List Msg) (m : WM) (l : List Frm) (v : Value) (z : Zc) (hR : WldR z e0 e1 n0 n1 m) (hv : Sl fRep z l v) (hl : l.length ≤ 1000) (hf : ∀ f ∈ l, frmOk f = true ∧ f.data.length ≤ 8) (h0 : n0.length ≤ 30) (h1 : n1.length ≤ 30) :
  Spec Tryz.prog 124 [wldV c link m, .int .i64 0, v] z (wldA e0 e1 n0 n1 m) (WldH c (says ⟨c, [e0, e1], [n0, n1], link⟩ 1 l)) := by
 obtain ⟨A, kk, cs, rfl, hk, he, hr⟩ := hv
 refine eB k124 ?_
 refine gO ?_
 refine loop_upd (ι := WaysS) (n := 2) (fun s => z ≤ s.z ∧ s.i ≤ l.length ∧ says ⟨c, [e0, e1], [n0, n1], link⟩ 1 (l.take s.i) = ⟨c, [s.e0, s.e1], [s.n0, s.n1], s.link⟩ ∧ WldR s.z s.e0 s.e1 s.n0 s.n1 s.m ∧ s.n0.length ≤ 30 ∧ s.n1.length ≤ 30) (fun s => [(7, .c (.v (.int .i64 s.i)))])
  (fun s => [(1000, .own (wldA s.e0 s.e1 s.n0 s.n1 s.m)), (0, .cells 31 [.v (.int .i64 c.mode), .v (.int .i64 c.win), .v (.int .i64 c.mps), .v (.int .i64 c.mtu), .v (.int .i64 c.tri), .v (.slice s.m.E 2 s.m.EC), .v (.slice s.m.N 2 s.m.NC), .v (.int .i64 s.link)]), (1, .cells 31 [.v (.int .i64 0), .v (.int .i64 0), .v (.int .i64 0), .v (.int .i64 0), .v (.int .i64 0), .v (.slice none 0 0), .v (.slice none 0 0), .v (.int .i64 0)])])
  (fun s => s.z) (fun s => l.length - s.i) ⟨0, e0, e1, n0, n1, link, m, z⟩ ⟨Zc.rfl' _, by simp, by simp [says], hR, h0, h1⟩ (by (simp only [wrI, wrR, anyL, st, List.append_nil, List.nil_append, List.cons_append]); exact rfl) ?_ ?_
 ·exact lX
 ·rintro ⟨i, e0', e1', n0', n1', link', m', z1⟩ ⟨hz1, hi, hgl, hR1, hn0, hn1⟩
  dsimp only at *
  refine gO ?_
  (with_reducible refine condI.split (fun hg => ?_) (fun hg => ?_) <;> (try simp only [hg]) <;> (try simp only [seval, go_sem]))
  ·have hi' : i < l.length := by simp at hg; omega
   obtain ⟨x, hx⟩ : ∃ x, l[i]? = some x := ⟨_, List.getElem?_eq_getElem hi'⟩
   obtain ⟨hf1, hf8⟩ := hf x (List.mem_of_getElem? hx)
   obtain ⟨c1, ⟨v, rfl, hb⟩, hr1⟩ := (he.mono hz1).at (hr.mono hz1) hx
   have hat : IsAt A := he.isAt hr (by decide) hi'
   refine gO ?_
   (refine ⟨⟨by omega, by omega, hat⟩, ?_⟩; (try simp only [seval, go_sem]))
   (refine ldF.agg _ rfl (by first | exact .inl hr1 | exact hr1) ?_; (try simp only [seval, go_sem]))
   refine gO ?_
   refine tT ?_; refine callW 1000 ((l9way0 c link' e0' e1' n0' n1' m' x v z1 hR1 (by omega) hf1 hb (by omega)).mono fun _ _ _ _ h => wldH_eq h) rfl rfl rfl rfl ?_; rintro v2 z2 A2 hz2 ⟨e0'', e1'', n0'', n1'', m'', link'', hw, rfl, rfl, hR2⟩; refine gO ?_
   have h30 := say1_30 hw hn0 hn1
   refine ⟨⟨i + 1, e0'', e1'', n0'', n1'', link'', m'', z2⟩, ⟨Zc.trans' hz1 hz2, by dsimp only; omega, by dsimp only; rw [says_take hx, hgl, hw], hR2, h30.1, h30.2⟩, by dsimp only; omega, ?_⟩
   exact lX
  ·have hil : i = l.length := by simp at hg; omega
   subst hil
   rw [List.take_length] at hgl
   refine gO ?_
   refine fQ ?_
   rw [hgl]
   exact WldH.mk hR1
theorem l9ways1 (c : Cfg) (link : Int) (e0 e1 : End) (n0 n1 : List Msg) (m : WM) (l : List Frm) (v : Value) (z : Zc) (hR : WldR z e0 e1 n0 n1 m) (hv : Sl fRep z l v) (hl : l.length ≤ 1000) (hf : ∀ f ∈ l, frmOk f = true ∧ f.data.length ≤ 8) (h0 : n0.length ≤ 30) (h1 : n1.length ≤ 30) :
  Spec Tryz.prog 124 [wldV c link m, .int .i64 1, v] z (wldA e0 e1 n0 n1 m) (WldH c (says ⟨c, [e0, e1], [n0, n1], link⟩ 0 l)) := by
 obtain ⟨A, kk, cs, rfl, hk, he, hr⟩ := hv
 refine eB k124 ?_
 refine gO ?_
 refine loop_upd (ι := WaysS) (n := 2) (fun s => z ≤ s.z ∧ s.i ≤ l.length ∧ says ⟨c, [e0, e1], [n0, n1], link⟩ 0 (l.take s.i) = ⟨c, [s.e0, s.e1], [s.n0, s.n1], s.link⟩ ∧ WldR s.z s.e0 s.e1 s.n0 s.n1 s.m ∧ s.n0.length ≤ 30 ∧ s.n1.length ≤ 30) (fun s => [(7, .c (.v (.int .i64 s.i)))])
  (fun s => [(1000, .own (wldA s.e0 s.e1 s.n0 s.n1 s.m)), (0, .cells 31 [.v (.int .i64 c.mode), .v (.int .i64 c.win), .v (.int .i64 c.mps), .v (.int .i64 c.mtu), .v (.int .i64 c.tri), .v (.slice s.m.E 2 s.m.EC), .v (.slice s.m.N 2 s.m.NC), .v (.int .i64 s.link)]), (1, .cells 31 [.v (.int .i64 0), .v (.int .i64 0), .v (.int .i64 0), .v (.int .i64 0), .v (.int .i64 0), .v (.slice none 0 0), .v (.slice none 0 0), .v (.int .i64 0)])])
  (fun s => s.z) (fun s => l.length - s.i) ⟨0, e0, e1, n0, n1, link, m, z⟩ ⟨Zc.rfl' _, by simp, by simp [says], hR, h0, h1⟩ (by (simp only [wrI, wrR, anyL, st, List.append_nil, List.nil_append, List.cons_append]); exact rfl) ?_ ?_
 ·exact lX
 ·rintro ⟨i, e0', e1', n0', n1', link', m', z1⟩ ⟨hz1, hi, hgl, hR1, hn0, hn1⟩
  dsimp only at *
  refine gO ?_
  (with_reducible refine condI.split (fun hg => ?_) (fun hg => ?_) <;> (try simp only [hg]) <;> (try simp only [seval, go_sem]))
  ·have hi' : i < l.length := by simp at hg; omega
   obtain ⟨x, hx⟩ : ∃ x, l[i]? = some x := ⟨_, List.getElem?_eq_getElem hi'⟩
   obtain ⟨hf1, hf8⟩ := hf x (List.mem_of_getElem? hx)
   obtain ⟨c1, ⟨v, rfl, hb⟩, hr1⟩ := (he.mono hz1).at (hr.mono hz1) hx
   have hat : IsAt A := he.isAt hr (by decide) hi'
   refine gO ?_
   (refine ⟨⟨by omega, by omega, hat⟩, ?_⟩; (try simp only [seval, go_sem]))
   (refine ldF.agg _ rfl (by first | exact .inl hr1 | exact hr1) ?_; (try simp only [seval, go_sem]))
   refine gO ?_
   refine tT ?_; refine callW 1000 ((l9way1 c link' e0' e1' n0' n1' m' x v z1 hR1 (by omega) hf1 hb (by omega)).mono fun _ _ _ _ h => wldH_eq h) rfl rfl rfl rfl ?_; rintro v2 z2 A2 hz2 ⟨e0'', e1'', n0'', n1'', m'', link'', hw, rfl, rfl, hR2⟩; refine gO ?_
   have h30 := say1_30 hw hn0 hn1
   refine ⟨⟨i + 1, e0'', e1'', n0'', n1'', link'', m'', z2⟩, ⟨Zc.trans' hz1 hz2, by dsimp only; omega, by dsimp only; rw [says_take hx, hgl, hw], hR2, h30.1, h30.2⟩, by dsimp only; omega, ?_⟩
   exact lX
  ·have hil : i = l.length := by simp at hg; omega
   subst hil
   rw [List.take_length] at hgl
   refine gO ?_
   refine fQ ?_
   rw [hgl]
   exact WldH.mk hR1
theorem rxBusyG_ok {r : Rx} {b : Bool} (h : RxI r) : rxBusyG r b = rxBusy r b := by unfold rxBusyG; rw [if_pos (rxOk_iff.2 h)]
theorem rxBusy_frm {r : Rx} {b : Bool} (h : RxI r) : ∀ f ∈ (rxBusy r b).2, frmOk f = true ∧ f.data.length ≤ 8 := by
 intro f hf
 unfold rxBusy at hf
 split at hf
 ·cases hf
 ·rw [List.mem_singleton.1 hf]
  exact ⟨sayFrm_ok h.expect rfl (goWait_02 b), by simp [sayFrm]⟩
theorem rxBusy_len {r : Rx} {b : Bool} : (rxBusy r b).2.length ≤ 1 := by
 unfold rxBusy
 split <;> simp
theorem l9say_n0 (c : Cfg) (link : Int) (e0 e1 : End) (n0 n1 : List Msg) (m : WM) (ev : Evt) (v : Value) (z : Zc) (hv : By z ev.data v) (hR : WldR z e0 e1 n0 n1 m) (hI : EndI c e0) (hm : c.mode = 1) (h0 : n0.length ≤ 30) (h1 : n1.length ≤ 30) (hw : ev.who = 0) (hk : ev.kind = 4 ∨ ev.kind = 5 ∨ ev.kind = 6) :
  Spec Tryz.prog 92 [wldV c link m, vEvt ev v] z (wldA e0 e1 n0 n1 m) (WldH c (if ev.kind = 4 then says ⟨c, [e0, e1].set 0 { e0 with rx := (rxBusy e0.rx (decide (ev.v = 1))).1 }, [n0, n1], link⟩ 0 (rxBusy e0.rx (decide (ev.v = 1))).2 else if ev.kind = 5 ∧ e0.rx.dead = false then say1 ⟨c, [e0, e1], [n0, n1], link⟩ 0 (rxAck e0.rx) else ⟨c, [e0, e1], [n0, n1], link⟩)) := by
 obtain ⟨kind, who, at_, vv, data⟩ := ev
 dsimp only at *
 subst hw
 obtain ⟨mode, win, mps, mtu, tri⟩ := c
 dsimp only at hm
 subst hm
 obtain ⟨Av, kv, rfl, hkv, hBv, hrv⟩ := hv.form
 have hj23 := hI.rx.join.le
 have hjl : -1000000000 ≤ e0.rx.join.len := by have := hI.rx.join; rcases this with h | h <;> omega
 refine eL kyR k92 ?_
 refine vsI.atR 10 rfl fun hE => ?_
 have hE := hE (by omega)
 refine vsI.atR 11 rfl fun hN => ?_
 have hN := hN (by omega)
 refine gO ?_
 ((first | refine ⟨⟨by omega, hE⟩, ?_⟩ | refine ⟨hE, ?_⟩); (try simp only [seval, go_sem]))
 (refine ldF.agg (sz := 28) _ rfl (by exact .inr ⟨10, _, _, _, _, _, rfl, fun i u hu => ends_get0 hu⟩) ?_; simp only [seval, go_sem, endC]; refine gO ?_)
 rcases hk with rfl | rfl | rfl
 ·simp only [seval, go_sem]
  refine gO ?_
  have hc := rxbusy_s e0.rx (decide (vv = 1)) _ z hR.e0.jo (by omega) hjl
  simp only [rxBusyG_ok hI.rx] at hc
  have hfr := @rxBusy_frm e0.rx (decide (vv = 1)) hI.rx
  have hln := @rxBusy_len e0.rx (decide (vv = 1))
  generalize rxBusy e0.rx (decide (vv = 1)) = tp at hc hfr hln ⊢
  obtain ⟨⟨expect, count, ⟨len, got⟩, again, busy, dead⟩, l⟩ := tp
  dsimp only at hc hfr hln ⊢
  refine tT ?_; refine callP (hc) rfl rfl ?_; rintro u z1 hz1 ⟨A3, k3, D3, m3, d3, rfl, h3, h4⟩; refine gO ?_
  have hR1 : WldR z1 e0 e1 n0 n1 m := ⟨hR.e0.mono hz1, hR.e1.mono hz1, hR.n0, hR.n1⟩
  ((first | refine ⟨⟨by omega, hE⟩, ?_⟩ | refine ⟨hE, ?_⟩); (try simp only [seval, go_sem]))
  (refine stoV_row 10 rfl rfl rfl rfl rfl rfl rfl (by rw [endsC_len]; simp) ?_; simp only [seval, go_sem, ends_rx0]; refine gO ?_)
  have hR2 : WldR z1 { e0 with rx := ⟨expect, count, ⟨len, got⟩, again, busy, dead⟩ } e1 n0 n1 { m with m0 := { m.m0 with jA := A3, jC := k3 } } := ⟨{ hR1.e0 with jo := h3 }, hR1.e1, hR.n0, hR.n1⟩
  try simp only [wr10]
  try simp only [seval, go_sem]
  refine wT ?_
  refine tT ?_; refine callW 999 (l9ways1 ⟨1, win, mps, mtu, tri⟩ link { e0 with rx := ⟨expect, count, ⟨len, got⟩, again, busy, dead⟩ } e1 n0 n1 { m with m0 := { m.m0 with jA := A3, jC := k3 } } l (.slice D3 m3 d3) z1 hR2 h4 (by omega) hfr h0 h1) rfl rfl rfl rfl ?_; rintro v z2 A' hz2 ⟨f0, f1, g0, g1, m', hw1, hw2, hw3, rfl, rfl, hR3⟩; refine gO ?_
  refine fP ?_
  exact ⟨f0, f1, g0, g1, m', hw1, hw2, hw3, rfl, rfl, hR3⟩
 ·simp only [seval, go_sem]
  refine gO ?_
  (with_reducible refine condI.split (fun hg => ?_) (fun hg => ?_) <;> (try simp only [hg]) <;> (try simp only [seval, go_sem]))
  ·have hd : e0.rx.dead = false := by simpa using hg
   rw [if_pos hd]
   refine gO ?_
   refine tT ?_; refine callP (l7say e0.rx _ false z hR.e0.jo) rfl rfl ?_; rintro _ _ - ⟨rfl, rfl⟩; refine gO ?_
   try simp only [wr10]
   try simp only [seval, go_sem]
   refine wT ?_
   refine tT ?_; refine callW 999 (l9way1 ⟨1, win, mps, mtu, tri⟩ link e0 e1 n0 n1 m (rxAck e0.rx) (.slice none 0 0) z hR (by omega) (sayFrm_ok hI.rx.expect rfl (goWait_02 _)) (Sl.nil _ _ _) (by simp [rxAck, sayFrm])) rfl rfl rfl rfl ?_; rintro v z2 A' hz2 ⟨f0, f1, g0, g1, m', hw1, hw2, hw3, rfl, rfl, hR3⟩; refine gO ?_
   refine fP ?_
   exact ⟨f0, f1, g0, g1, m', hw1, hw2, hw3, rfl, rfl, hR3⟩
  ·have hd : ¬ e0.rx.dead = false := by simpa using hg
   rw [if_neg hd]
   refine gO ?_
   refine wS ?_
   exact ⟨e0, e1, n0, n1, m, rfl, rfl, rfl, rfl, rfl, hR⟩
 ·simp only [seval, go_sem]
  refine gO ?_
  refine wS ?_
  exact ⟨e0, e1, n0, n1, m, rfl, rfl, rfl, rfl, rfl, hR⟩
theorem l9say_n1 (c : Cfg) (link : Int) (e0 e1 : End) (n0 n1 : List Msg) (m : WM) (ev : Evt) (v : Value) (z : Zc) (hv : By z ev.data v) (hR : WldR z e0 e1 n0 n1 m) (hI : EndI c e1) (hm : c.mode = 1) (h0 : n0.length ≤ 30) (h1 : n1.length ≤ 30) (hw : ev.who = 1) (hk : ev.kind = 4 ∨ ev.kind = 5 ∨ ev.kind = 6) :
  Spec Tryz.prog 92 [wldV c link m, vEvt ev v] z (wldA e0 e1 n0 n1 m) (WldH c (if ev.kind = 4 then says ⟨c, [e0, e1].set 1 { e1 with rx := (rxBusy e1.rx (decide (ev.v = 1))).1 }, [n0, n1], link⟩ 1 (rxBusy e1.rx (decide (ev.v = 1))).2 else if ev.kind = 5 ∧ e1.rx.dead = false then say1 ⟨c, [e0, e1], [n0, n1], link⟩ 1 (rxAck e1.rx) else ⟨c, [e0, e1], [n0, n1], link⟩)) := by
 obtain ⟨kind, who, at_, vv, data⟩ := ev
 dsimp only at *
 subst hw
 obtain ⟨mode, win, mps, mtu, tri⟩ := c
 dsimp only at hm
 subst hm
 obtain ⟨Av, kv, rfl, hkv, hBv, hrv⟩ := hv.form
 have hj23 := hI.rx.join.le
 have hjl : -1000000000 ≤ e1.rx.join.len := by have := hI.rx.join; rcases this with h | h <;> omega
 refine eL kyR k92 ?_
 refine vsI.atR 10 rfl fun hE => ?_
 have hE := hE (by omega)
 refine vsI.atR 11 rfl fun hN => ?_
 have hN := hN (by omega)
 refine gO ?_
 ((first | refine ⟨⟨by omega, hE⟩, ?_⟩ | refine ⟨hE, ?_⟩); (try simp only [seval, go_sem]))
 (refine ldF.agg (sz := 28) _ rfl (by exact .inr ⟨10, _, _, _, _, _, rfl, fun i u hu => ends_get1 hu⟩) ?_; simp only [seval, go_sem, endC]; refine gO ?_)
 rcases hk with rfl | rfl | rfl
 ·simp only [seval, go_sem]
  refine gO ?_
  have hc := rxbusy_s e1.rx (decide (vv = 1)) _ z hR.e1.jo (by omega) hjl
  simp only [rxBusyG_ok hI.rx] at hc
  have hfr := @rxBusy_frm e1.rx (decide (vv = 1)) hI.rx
  have hln := @rxBusy_len e1.rx (decide (vv = 1))
  generalize rxBusy e1.rx (decide (vv = 1)) = tp at hc hfr hln ⊢
  obtain ⟨⟨expect, count, ⟨len, got⟩, again, busy, dead⟩, l⟩ := tp
  dsimp only at hc hfr hln ⊢
  refine tT ?_; refine callP (hc) rfl rfl ?_; rintro u z1 hz1 ⟨A3, k3, D3, m3, d3, rfl, h3, h4⟩; refine gO ?_
  have hR1 : WldR z1 e0 e1 n0 n1 m := ⟨hR.e0.mono hz1, hR.e1.mono hz1, hR.n0, hR.n1⟩
  ((first | refine ⟨⟨by omega, hE⟩, ?_⟩ | refine ⟨hE, ?_⟩); (try simp only [seval, go_sem]))
  (refine stoV_row 10 rfl rfl rfl rfl rfl rfl rfl (by rw [endsC_len]; simp) ?_; simp only [seval, go_sem, ends_rx1]; refine gO ?_)
  have hR2 : WldR z1 e0 { e1 with rx := ⟨expect, count, ⟨len, got⟩, again, busy, dead⟩ } n0 n1 { m with m1 := { m.m1 with jA := A3, jC := k3 } } := ⟨hR1.e0, { hR1.e1 with jo := h3 }, hR.n0, hR.n1⟩
  try simp only [wr11]
  try simp only [seval, go_sem]
  refine wT ?_
  refine tT ?_; refine callW 999 (l9ways0 ⟨1, win, mps, mtu, tri⟩ link e0 { e1 with rx := ⟨expect, count, ⟨len, got⟩, again, busy, dead⟩ } n0 n1 { m with m1 := { m.m1 with jA := A3, jC := k3 } } l (.slice D3 m3 d3) z1 hR2 h4 (by omega) hfr h0 h1) rfl rfl rfl rfl ?_; rintro v z2 A' hz2 ⟨f0, f1, g0, g1, m', hw1, hw2, hw3, rfl, rfl, hR3⟩; refine gO ?_
  refine fP ?_
  exact ⟨f0, f1, g0, g1, m', hw1, hw2, hw3, rfl, rfl, hR3⟩
 ·simp only [seval, go_sem]
  refine gO ?_
  (with_reducible refine condI.split (fun hg => ?_) (fun hg => ?_) <;> (try simp only [hg]) <;> (try simp only [seval, go_sem]))
  ·have hd : e1.rx.dead = false := by simpa using hg
   rw [if_pos hd]
   refine gO ?_
   refine tT ?_; refine callP (l7say e1.rx _ false z hR.e1.jo) rfl rfl ?_; rintro _ _ - ⟨rfl, rfl⟩; refine gO ?_
   try simp only [wr11]
   try simp only [seval, go_sem]
   refine wT ?_
   refine tT ?_; refine callW 999 (l9way0 ⟨1, win, mps, mtu, tri⟩ link e0 e1 n0 n1 m (rxAck e1.rx) (.slice none 0 0) z hR (by omega) (sayFrm_ok hI.rx.expect rfl (goWait_02 _)) (Sl.nil _ _ _) (by simp [rxAck, sayFrm])) rfl rfl rfl rfl ?_; rintro v z2 A' hz2 ⟨f0, f1, g0, g1, m', hw1, hw2, hw3, rfl, rfl, hR3⟩; refine gO ?_
   refine fP ?_
   exact ⟨f0, f1, g0, g1, m', hw1, hw2, hw3, rfl, rfl, hR3⟩
  ·have hd : ¬ e1.rx.dead = false := by simpa using hg
   rw [if_neg hd]
   refine gO ?_
   refine wS ?_
   exact ⟨e0, e1, n0, n1, m, rfl, rfl, rfl, rfl, rfl, hR⟩
 ·simp only [seval, go_sem]
  refine gO ?_
  refine wS ?_
  exact ⟨e0, e1, n0, n1, m, rfl, rfl, rfl, rfl, rfl, hR⟩
theorem WldR.up {z z' : Zc} {e0 e1 : End} {n0 n1 : List Msg} {m : WM} (hz : z ≤ z') (h : WldR z e0 e1 n0 n1 m) : WldR z' e0 e1 n0 n1 m := ⟨h.e0.mono hz, h.e1.mono hz, h.n0, h.n1⟩
theorem txHear_qu (t : Tx) (f : Frm) : (txHear t f).queue = t.queue := by unfold txHear; split; rfl; split <;> rfl
theorem rxHear_frm {c : Cfg} {r : Rx} {f : Frm} (h : RxI r) : ∀ g ∈ (rxHear c r f).2.2, frmOk g = true ∧ g.data.length ≤ 8 := by
 intro g hg
 have key : ∀ {a b : Bool} {s : Int}, (a && b) = false → 0 ≤ s ∧ s ≤ 2 → g ∈ [sayFrm r.expect a b s] → frmOk g = true ∧ g.data.length ≤ 8 := by
  intro a b s h1 h2 hg
  rw [List.mem_singleton.1 hg]
  exact ⟨sayFrm_ok h.expect h1 h2, by simp [sayFrm]⟩
 unfold rxHear at hg
 split at hg
 ·cases hg
 ·split at hg
  ·split at hg
   ·exact key rfl (goWait_02 _) hg
   ·cases hg
  ·split at hg
   ·exact key rfl (by omega) hg
   ·split at hg
    ·cases hg
    ·split at hg
     ·exact key rfl (by omega) hg
     ·cases hg
theorem rxHear_len {c : Cfg} {r : Rx} {f : Frm} : (rxHear c r f).2.2.length ≤ 1 := by
 unfold rxHear
 repeat' split
 all_goals simp
theorem frm2ack {f : Frm} (h : frmOk f = true) (hk : f.kind = 1 ∨ f.kind = 2) : 0 ≤ f.ack ∧ f.ack ≤ 7 := by
 unfold frmOk at h
 rcases hk with hk | hk
 ·rw [if_pos hk] at h
  simp only [Bool.and_eq_true, isNum_iff] at h
  exact h.1.1.1.2
 ·rw [if_neg (by omega), if_pos hk] at h
  simp only [Bool.and_eq_true, isNum_iff] at h
  exact h.1.1.1.1.1.2
def hearN1 (c : Cfg) (x : End) (f : Frm) : End := { x with tx := txHear x.tx f, rx := (rxHear c x.rx f).1, got := tell x.got (rxHear c x.rx f).2.1 }
theorem l9num0 (c : Cfg) (link : Int) (e0 e1 : End) (n0 n1 : List Msg) (m : WM) (f : Frm) (x : Value) (z : Zc) (hR : WldR z e0 e1 n0 n1 m) (hI : EndI c e0) (hf : frmOk f = true) (hkk : f.kind = 1 ∨ f.kind = 2) (hx : By z f.data x) (h0 : n0.length ≤ 30) (h1 : n1.length ≤ 30) :
  Spec Tryz.prog 155 [wldV c link m, .int .i64 0, vFrm f x] z (wldA e0 e1 n0 n1 m) (WldH c (says ⟨c, [e0, e1].set 0 (hearN1 c e0 f), [n0, n1], link⟩ 0 (rxHear c e0.rx f).2.2)) := by
 obtain ⟨Ax, kx, rfl, hkx, hBx, hrx⟩ := hx.form
 have hack := frm2ack hf hkk
 have hsn := hI.tx.sent
 have hwn := hI.tx.win
 have hcw := hI.tx.cfg.win
 have hcn := hI.tx.count
 have hg60 := hI.got.1
 have hmps := hI.tx.cfg.mps
 have hpl : ∀ p ∈ e0.tx.flight, p.data.length ≤ 1000000000 := fun p hp => by have := (hI.tx.fl p hp).2; omega
 have hc1 := l6hear e0.tx f m.m0.fA m.m0.qA e0.tx.queue.length m.m0.fC m.m0.qC m.m0.fV _ z hx hI.tx.acked hack (by omega) (by omega) (by omega) hpl hR.e0.fl hR.e0.fc
 have hqu := txHear_qu e0.tx f
 have hfr := @rxHear_frm c e0.rx f hI.rx
 have hln := @rxHear_len c e0.rx f
 obtain ⟨hrI, hsm, hsl⟩ := @rxHear_ok c e0.rx f hI.rx hf hkk
 unfold hearN1
 refine eL kyR k155 ?_
 refine vsI.atR 10 rfl fun hE => ?_
 have hE := hE (by omega)
 refine gO ?_
 ((first | refine ⟨⟨by omega, hE⟩, ?_⟩ | refine ⟨hE, ?_⟩); (try simp only [seval, go_sem]))
 (refine ldF.agg (sz := 28) _ rfl (by exact .inr ⟨10, _, _, _, _, _, rfl, fun i u hu => ends_get0 hu⟩) ?_; simp only [seval, go_sem, endC]; refine gO ?_)
 generalize txHear e0.tx f = tp at hc1 hqu ⊢
 obtain ⟨next, acked, fl, sent, qu, asks, tries, held, count, dead⟩ := tp
 dsimp only at hc1 hqu ⊢
 subst hqu
 refine tT ?_; refine callW 20 (hc1) rfl rfl rfl rfl ?_; rintro u z1 A' hz1 ⟨A3, a3, cs3, rfl, rfl, ha3, he3⟩; refine gO ?_
 have hR1 : WldR z1 e0 e1 n0 n1 m := ⟨hR.e0.mono hz1, hR.e1.mono hz1, hR.n0, hR.n1⟩
 ((first | refine ⟨⟨by omega, hE⟩, ?_⟩ | refine ⟨hE, ?_⟩); (try simp only [seval, go_sem]))
 (refine stoV_row 10 rfl rfl rfl rfl rfl rfl rfl (by rw [endsC_len]; simp) ?_; simp only [seval, go_sem, ends_tx0]; refine gO ?_)
 have hR2 : WldR z1 { e0 with tx := ⟨next, acked, fl, sent, e0.tx.queue, asks, tries, held, count, dead⟩ } e1 n0 n1 { m with m0 := { m.m0 with fA := A3, fC := a3, fV := cs3 } } := ⟨{ hR1.e0 with fl := he3, fc := ha3 }, hR1.e1, hR.n0, hR.n1⟩
 have hc2 := l7hear c e0.rx f _ _ z1 hR1.e0.jo (Sl.mono hz1 hx) hI.rx hf hkk
 generalize rxHear c e0.rx f = tq at hc2 hfr hln hrI hsm hsl ⊢
 obtain ⟨⟨rexpect, rcount, ⟨rlen, rgot⟩, ragain, rbusy, rdead⟩, sdus, sys⟩ := tq
 dsimp only at hc2 hfr hln hrI hsm hsl ⊢
 refine tT ?_; refine callP (hc2) rfl rfl ?_; rintro u z2 hz2 ⟨A5, k5, B6, m6, k6, B7, m7, k7, rfl, h5, h6, h7⟩; refine gO ?_
 have hR2 := WldR.up hz2 hR2
 dsimp only at h5 h6 h7
 ((first | refine ⟨⟨by omega, hE⟩, ?_⟩ | refine ⟨hE, ?_⟩); (try simp only [seval, go_sem]))
 (refine stoV_row 10 rfl rfl rfl rfl rfl rfl rfl (by rw [endsC_len]; simp) ?_; simp only [seval, go_sem, ends_rx0]; refine gO ?_)
 have hR3 : WldR z2 { e0 with tx := ⟨next, acked, fl, sent, e0.tx.queue, asks, tries, held, count, dead⟩, rx := ⟨rexpect, rcount, ⟨rlen, rgot⟩, ragain, rbusy, rdead⟩ } e1 n0 n1 { m with m0 := { m.m0 with fA := A3, fC := a3, fV := cs3, jA := A5, jC := k5 } } := ⟨{ hR2.e0 with jo := h5 }, hR2.e1, hR.n0, hR.n1⟩
 refine wT ?_
 refine tT ?_; refine callW 999 ((l9tell0 c link { e0 with tx := ⟨next, acked, fl, sent, e0.tx.queue, asks, tries, held, count, dead⟩, rx := ⟨rexpect, rcount, ⟨rlen, rgot⟩, ragain, rbusy, rdead⟩ } e1 n0 n1 { m with m0 := { m.m0 with fA := A3, fC := a3, fV := cs3, jA := A5, jC := k5 } } sdus (.slice B6 m6 k6) z2 hR3 h6 (by omega) hg60).mono fun _ _ _ _ h => wldH_eq h) rfl rfl rfl rfl ?_; rintro v z3 A' hz3 ⟨f0, f1, g0, g1, m', link', hw, rfl, rfl, hR4⟩; refine gO ?_
 injection hw with _ hw1 hw2 hw3
 injection hw2 with hw2 hw4
 injection hw4 with hw4 _
 subst hw2; subst hw4; subst hw3
 simp only [wr10]
 try simp only [seval, go_sem]
 refine tT ?_; refine callW 999 (l9ways1 c link f0 f1 n0 n1 m' sys (.slice B7 m7 k7) z3 hR4 (h7.mono hz3) (by omega) hfr h0 h1) rfl rfl rfl rfl ?_; rintro v z4 A' hz4 ⟨i0, i1, g0, g1, m'', hw5, hw6, hw7, rfl, rfl, hR5⟩; refine gO ?_
 refine fP ?_
 have e : ([e0, e1].set 0 { e0 with tx := ⟨next, acked, fl, sent, e0.tx.queue, asks, tries, held, count, dead⟩, rx := ⟨rexpect, rcount, ⟨rlen, rgot⟩, ragain, rbusy, rdead⟩, got := tell e0.got sdus } : List End) = [f0, f1] := hw1
 rw [e]
 exact ⟨i0, i1, g0, g1, m'', hw5, hw6, hw7, rfl, rfl, hR5⟩
theorem l9num1 (c : Cfg) (link : Int) (e0 e1 : End) (n0 n1 : List Msg) (m : WM) (f : Frm) (x : Value) (z : Zc) (hR : WldR z e0 e1 n0 n1 m) (hI : EndI c e1) (hf : frmOk f = true) (hkk : f.kind = 1 ∨ f.kind = 2) (hx : By z f.data x) (h0 : n0.length ≤ 30) (h1 : n1.length ≤ 30) :
  Spec Tryz.prog 155 [wldV c link m, .int .i64 1, vFrm f x] z (wldA e0 e1 n0 n1 m) (WldH c (says ⟨c, [e0, e1].set 1 (hearN1 c e1 f), [n0, n1], link⟩ 1 (rxHear c e1.rx f).2.2)) := by
 obtain ⟨Ax, kx, rfl, hkx, hBx, hrx⟩ := hx.form
 have hack := frm2ack hf hkk
 have hsn := hI.tx.sent
 have hwn := hI.tx.win
 have hcw := hI.tx.cfg.win
 have hcn := hI.tx.count
 have hg60 := hI.got.1
 have hmps := hI.tx.cfg.mps
 have hpl : ∀ p ∈ e1.tx.flight, p.data.length ≤ 1000000000 := fun p hp => by have := (hI.tx.fl p hp).2; omega
 have hc1 := l6hear e1.tx f m.m1.fA m.m1.qA e1.tx.queue.length m.m1.fC m.m1.qC m.m1.fV _ z hx hI.tx.acked hack (by omega) (by omega) (by omega) hpl hR.e1.fl hR.e1.fc
 have hqu := txHear_qu e1.tx f
 have hfr := @rxHear_frm c e1.rx f hI.rx
 have hln := @rxHear_len c e1.rx f
 obtain ⟨hrI, hsm, hsl⟩ := @rxHear_ok c e1.rx f hI.rx hf hkk
 unfold hearN1
 refine eL kyR k155 ?_
 refine vsI.atR 10 rfl fun hE => ?_
 have hE := hE (by omega)
 refine gO ?_
 ((first | refine ⟨⟨by omega, hE⟩, ?_⟩ | refine ⟨hE, ?_⟩); (try simp only [seval, go_sem]))
 (refine ldF.agg (sz := 28) _ rfl (by exact .inr ⟨10, _, _, _, _, _, rfl, fun i u hu => ends_get1 hu⟩) ?_; simp only [seval, go_sem, endC]; refine gO ?_)
 generalize txHear e1.tx f = tp at hc1 hqu ⊢
 obtain ⟨next, acked, fl, sent, qu, asks, tries, held, count, dead⟩ := tp
 dsimp only at hc1 hqu ⊢
 subst hqu
 refine tT ?_; refine callW 30 (hc1) rfl rfl rfl rfl ?_; rintro u z1 A' hz1 ⟨A3, a3, cs3, rfl, rfl, ha3, he3⟩; refine gO ?_
 have hR1 : WldR z1 e0 e1 n0 n1 m := ⟨hR.e0.mono hz1, hR.e1.mono hz1, hR.n0, hR.n1⟩
 ((first | refine ⟨⟨by omega, hE⟩, ?_⟩ | refine ⟨hE, ?_⟩); (try simp only [seval, go_sem]))
 (refine stoV_row 10 rfl rfl rfl rfl rfl rfl rfl (by rw [endsC_len]; simp) ?_; simp only [seval, go_sem, ends_tx1]; refine gO ?_)
 have hR2 : WldR z1 e0 { e1 with tx := ⟨next, acked, fl, sent, e1.tx.queue, asks, tries, held, count, dead⟩ } n0 n1 { m with m1 := { m.m1 with fA := A3, fC := a3, fV := cs3 } } := ⟨hR1.e0, { hR1.e1 with fl := he3, fc := ha3 }, hR.n0, hR.n1⟩
 have hc2 := l7hear c e1.rx f _ _ z1 hR1.e1.jo (Sl.mono hz1 hx) hI.rx hf hkk
 generalize rxHear c e1.rx f = tq at hc2 hfr hln hrI hsm hsl ⊢
 obtain ⟨⟨rexpect, rcount, ⟨rlen, rgot⟩, ragain, rbusy, rdead⟩, sdus, sys⟩ := tq
 dsimp only at hc2 hfr hln hrI hsm hsl ⊢
 refine tT ?_; refine callP (hc2) rfl rfl ?_; rintro u z2 hz2 ⟨A5, k5, B6, m6, k6, B7, m7, k7, rfl, h5, h6, h7⟩; refine gO ?_
 have hR2 := WldR.up hz2 hR2
 dsimp only at h5 h6 h7
 ((first | refine ⟨⟨by omega, hE⟩, ?_⟩ | refine ⟨hE, ?_⟩); (try simp only [seval, go_sem]))
 (refine stoV_row 10 rfl rfl rfl rfl rfl rfl rfl (by rw [endsC_len]; simp) ?_; simp only [seval, go_sem, ends_rx1]; refine gO ?_)
 have hR3 : WldR z2 e0 { e1 with tx := ⟨next, acked, fl, sent, e1.tx.queue, asks, tries, held, count, dead⟩, rx := ⟨rexpect, rcount, ⟨rlen, rgot⟩, ragain, rbusy, rdead⟩ } n0 n1 { m with m1 := { m.m1 with fA := A3, fC := a3, fV := cs3, jA := A5, jC := k5 } } := ⟨hR2.e0, { hR2.e1 with jo := h5 }, hR.n0, hR.n1⟩
 refine wT ?_
 refine tT ?_; refine callW 999 ((l9tell1 c link e0 { e1 with tx := ⟨next, acked, fl, sent, e1.tx.queue, asks, tries, held, count, dead⟩, rx := ⟨rexpect, rcount, ⟨rlen, rgot⟩, ragain, rbusy, rdead⟩ } n0 n1 { m with m1 := { m.m1 with fA := A3, fC := a3, fV := cs3, jA := A5, jC := k5 } } sdus (.slice B6 m6 k6) z2 hR3 h6 (by omega) hg60).mono fun _ _ _ _ h => wldH_eq h) rfl rfl rfl rfl ?_; rintro v z3 A' hz3 ⟨f0, f1, g0, g1, m', link', hw, rfl, rfl, hR4⟩; refine gO ?_
 injection hw with _ hw1 hw2 hw3
 injection hw2 with hw2 hw4
 injection hw4 with hw4 _
 subst hw2; subst hw4; subst hw3
 simp only [wr11]
 try simp only [seval, go_sem]
 refine tT ?_; refine callW 999 (l9ways0 c link f0 f1 n0 n1 m' sys (.slice B7 m7 k7) z3 hR4 (h7.mono hz3) (by omega) hfr h0 h1) rfl rfl rfl rfl ?_; rintro v z4 A' hz4 ⟨i0, i1, g0, g1, m'', hw5, hw6, hw7, rfl, rfl, hR5⟩; refine gO ?_
 refine fP ?_
 have e : ([e0, e1].set 1 { e1 with tx := ⟨next, acked, fl, sent, e1.tx.queue, asks, tries, held, count, dead⟩, rx := ⟨rexpect, rcount, ⟨rlen, rgot⟩, ragain, rbusy, rdead⟩, got := tell e1.got sdus } : List End) = [f0, f1] := hw1
 rw [e]
 exact ⟨i0, i1, g0, g1, m'', hw5, hw6, hw7, rfl, rfl, hR5⟩
end Go.Proofs.YtllafcmkppmdgaaGreat
