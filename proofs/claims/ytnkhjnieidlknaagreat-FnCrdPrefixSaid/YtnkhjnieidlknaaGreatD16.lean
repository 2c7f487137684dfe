/- What one wants, drawn: the steps. · What one wants, drawn: rows, and the end. · What one wants, drawn: its contract. · What is drawn to happen to two ends, on a link that keeps all. · One takes a message by numbers, by the reference. · One sends, or asks, by numbers, by the reference. · Frames go on their way, by the reference. · One is busy, or says how far all has come, by numbers, by the reference. · One hears a frame by numbers, by the reference. · What happens to the first message, by numbers, by the reference. · A frame that is on its way is bent, by the reference. · Two ends move to another link, by the reference. · Codes of functions, group ImpT. · Who sends by numbers, by the program: what is ok, copies, what it takes. · Who sends by numbers, by the program: a piece is sent. · Who sends by numbers, by the program: a frame is heard. · Who hears by numbers, by the program. · Clones of bytes that are one's own. -/
import Derived.Test.YtnkhjnieidlknaaGreatD15
import Derived.Test.YtnkhjnieidlknaaGreatD14
import Derived.Test.YtnkhjnieidlknaaGreatD12
import Derived.Test.YtnkhjnieidlknaaGreatD13
import Derived.Test.YtnkhjnieidlknaaGreatD6
import Derived.Test.YtnkhjnieidlknaaGreatD3
import Derived.Test.YtnkhjnieidlknaaGreatProg
import Derived.Test.YtnkhjnieidlknaaGreatD4
import Derived.Test.YtnkhjnieidlknaaGreatD11
import Derived.Test.YtnkhjnieidlknaaGreatD7
namespace Go.Proofs.YtnkhjnieidlknaaGreat
open Go.RowKit
set_option linter.unusedVariables false
set_option linter.unusedSimpArgs false
set_option maxRecDepth 100000
set_option maxHeartbeats 1000000
section
variable {z0 : Zc} {b : Nat} {A : Option Addr} {nn cc : Nat} {p : Int} {code : List Int}
abbrev StpC (z0 : Zc) (b : Nat) (A : Option Addr) (nn cc : Nat) (p : Int) (l : Nat → Bool) (i : Nat) (s : St) : Prop := VS s (InvC z0 b A nn cc p (upd l i))
theorem vcm_mv' {x : Operand} {d : Option Nat} {s : St} {K : St → Prop} : vcT Tryz.prog (.mv x) d s K = K ⟨stO s.t d (ev s.t x), s.L, s.z, s.n⟩ := rfl
theorem cfg_0 {l : Nat → Bool} {s : St} (h : InvC z0 b A nn cc p l s) (hl : l 0 = false) : vcT Tryz.prog (.mv (.tmp 0)) (some 6) s (StpC z0 b A nn cc p l 0) := by
  rw [vcm_mv']
  simp only [ev, stO, h.g0]
  exact VS.id (h.pure 0 (by omega) hl (by simp [cnt, upd]) (by simp [nms, upd]) (by simp [Fct]))
theorem cfg_3 {l : Nat → Bool} {s : St} (h : InvC z0 b A nn cc p l s) (hl : l 3 = false) : vcT Tryz.prog (.mv (.tmp 0)) (some 9) s (StpC z0 b A nn cc p l 3) := by
  rw [vcm_mv']
  simp only [ev, stO, h.g0]
  exact VS.id (h.pure 3 (by omega) hl (by simp [cnt, upd]) (by simp [nms, upd]) (by simp [Fct]))
theorem cfg_6 {l : Nat → Bool} {s : St} (h : InvC z0 b A nn cc p l s) (hl : l 6 = false) : vcT Tryz.prog (.mv (.tmp 0)) (some 12) s (StpC z0 b A nn cc p l 6) := by
  rw [vcm_mv']
  simp only [ev, stO, h.g0]
  exact VS.id (h.pure 6 (by omega) hl (by simp [cnt, upd]) (by simp [nms, upd]) (by simp [Fct]))
theorem cfg_10 {l : Nat → Bool} {s : St} (h : InvC z0 b A nn cc p l s) (hl : l 10 = false) : vcT Tryz.prog (.mv (.tmp 0)) (some 16) s (StpC z0 b A nn cc p l 10) := by
  rw [vcm_mv']
  simp only [ev, stO, h.g0]
  exact VS.id (h.pure 10 (by omega) hl (by simp [cnt, upd]) (by simp [nms, upd]) (by simp [Fct]))
theorem cfg_14 {l : Nat → Bool} {s : St} (h : InvC z0 b A nn cc p l s) (hl : l 14 = false) : vcT Tryz.prog (.mv (.tmp 0)) (some 20) s (StpC z0 b A nn cc p l 14) := by
  rw [vcm_mv']
  simp only [ev, stO, h.g0]
  exact VS.id (h.pure 14 (by omega) hl (by simp [cnt, upd]) (by simp [nms, upd]) (by simp [Fct]))
theorem cfg_18 {l : Nat → Bool} {s : St} (h : InvC z0 b A nn cc p l s) (hl : l 18 = false) : vcT Tryz.prog (.mv (.tmp 0)) (some 24) s (StpC z0 b A nn cc p l 18) := by
  rw [vcm_mv']
  simp only [ev, stO, h.g0]
  exact VS.id (h.pure 18 (by omega) hl (by simp [cnt, upd]) (by simp [nms, upd]) (by simp [Fct]))
theorem cfg_22 {l : Nat → Bool} {s : St} (h : InvC z0 b A nn cc p l s) (hl : l 22 = false) : vcT Tryz.prog (.mv (.tmp 0)) (some 28) s (StpC z0 b A nn cc p l 22) := by
  rw [vcm_mv']
  simp only [ev, stO, h.g0]
  exact VS.id (h.pure 22 (by omega) hl (by simp [cnt, upd]) (by simp [nms, upd]) (by simp [Fct]))
theorem cfg_1 {l : Nat → Bool} {s : St} (h : InvC z0 b A code.length cc p l s) (hb : By z0 code (.slice A code.length cc)) (hp : 0 ≤ p ∧ p ≤ 800000) (hlen : code.length ≤ 2000) (hl : l 1 = false) (h0 : l 0 = true) : vcT Tryz.prog (.call 52 [.tmp 6, .const (.int .i64 2)]) (some 7) s (StpC z0 b A code.length cc p l 1) := by
  have hv : gt s.t 6 = .c (.v (.pointer (some ⟨b, 0, none⟩))) := (h.fct 0 (by omega) h0).1 (by simp)
  have := cnt_le l
  rw [vcT_call]
  refine callM.toT ?_
  refine callW 1000 (pick_s b A cc code (p + cnt l) 2 s.z (hb.mono h.z) (by omega) hlen (by omega)) (by simp only [argsV, ev, hv]; rfl) h.look.1 h.look.2 rfl ?_
  rintro v z' A' hz ⟨x, rfl, rfl, rfl, hx0, hx1, _⟩
  have hx1 := hx1 (by omega)
  exact VS.id (h.call 1 (sv := .c (.v (.int .i64 x))) (by omega) hl (by simp [cnt, upd, hl, b1]; try omega) (by simp [nms, upd]) (by simp [Fct, isI]; omega))
theorem cfg_4 {l : Nat → Bool} {s : St} (h : InvC z0 b A code.length cc p l s) (hb : By z0 code (.slice A code.length cc)) (hp : 0 ≤ p ∧ p ≤ 800000) (hlen : code.length ≤ 2000) (hl : l 4 = false) (h3 : l 3 = true) : vcT Tryz.prog (.call 52 [.tmp 9, .const (.int .i64 4)]) (some 10) s (StpC z0 b A code.length cc p l 4) := by
  have hv : gt s.t 9 = .c (.v (.pointer (some ⟨b, 0, none⟩))) := (h.fct 3 (by omega) h3).1 (by simp)
  have := cnt_le l
  rw [vcT_call]
  refine callM.toT ?_
  refine callW 1000 (pick_s b A cc code (p + cnt l) 4 s.z (hb.mono h.z) (by omega) hlen (by omega)) (by simp only [argsV, ev, hv]; rfl) h.look.1 h.look.2 rfl ?_
  rintro v z' A' hz ⟨x, rfl, rfl, rfl, hx0, hx1, _⟩
  have hx1 := hx1 (by omega)
  exact VS.id (h.call 4 (sv := .c (.v (.int .i64 x))) (by omega) hl (by simp [cnt, upd, hl, b1]; try omega) (by simp [nms, upd]) (by simp [Fct, isI]; omega))
theorem cfg_7 {l : Nat → Bool} {s : St} (h : InvC z0 b A code.length cc p l s) (hb : By z0 code (.slice A code.length cc)) (hp : 0 ≤ p ∧ p ≤ 800000) (hlen : code.length ≤ 2000) (hl : l 7 = false) (h6 : l 6 = true) : vcT Tryz.prog (.call 52 [.tmp 12, .const (.int .i64 8)]) (some 13) s (StpC z0 b A code.length cc p l 7) := by
  have hv : gt s.t 12 = .c (.v (.pointer (some ⟨b, 0, none⟩))) := (h.fct 6 (by omega) h6).1 (by simp)
  have := cnt_le l
  rw [vcT_call]
  refine callM.toT ?_
  refine callW 1000 (pick_s b A cc code (p + cnt l) 8 s.z (hb.mono h.z) (by omega) hlen (by omega)) (by simp only [argsV, ev, hv]; rfl) h.look.1 h.look.2 rfl ?_
  rintro v z' A' hz ⟨x, rfl, rfl, rfl, hx0, hx1, _⟩
  have hx1 := hx1 (by omega)
  exact VS.id (h.call 7 (sv := .c (.v (.int .i64 x))) (by omega) hl (by simp [cnt, upd, hl, b1]; try omega) (by simp [nms, upd]) (by simp [Fct, isI]; omega))
theorem cfg_11 {l : Nat → Bool} {s : St} (h : InvC z0 b A code.length cc p l s) (hb : By z0 code (.slice A code.length cc)) (hp : 0 ≤ p ∧ p ≤ 800000) (hlen : code.length ≤ 2000) (hl : l 11 = false) (h10 : l 10 = true) : vcT Tryz.prog (.call 52 [.tmp 16, .const (.int .i64 3)]) (some 17) s (StpC z0 b A code.length cc p l 11) := by
  have hv : gt s.t 16 = .c (.v (.pointer (some ⟨b, 0, none⟩))) := (h.fct 10 (by omega) h10).1 (by simp)
  have := cnt_le l
  rw [vcT_call]
  refine callM.toT ?_
  refine callW 1000 (pick_s b A cc code (p + cnt l) 3 s.z (hb.mono h.z) (by omega) hlen (by omega)) (by simp only [argsV, ev, hv]; rfl) h.look.1 h.look.2 rfl ?_
  rintro v z' A' hz ⟨x, rfl, rfl, rfl, hx0, hx1, _⟩
  have hx1 := hx1 (by omega)
  exact VS.id (h.call 11 (sv := .c (.v (.int .i64 x))) (by omega) hl (by simp [cnt, upd, hl, b1]; try omega) (by simp [nms, upd]) (by simp [Fct, isI]; omega))
theorem cfg_15 {l : Nat → Bool} {s : St} (h : InvC z0 b A code.length cc p l s) (hb : By z0 code (.slice A code.length cc)) (hp : 0 ≤ p ∧ p ≤ 800000) (hlen : code.length ≤ 2000) (hl : l 15 = false) (h14 : l 14 = true) : vcT Tryz.prog (.call 52 [.tmp 20, .const (.int .i64 24)]) (some 21) s (StpC z0 b A code.length cc p l 15) := by
  have hv : gt s.t 20 = .c (.v (.pointer (some ⟨b, 0, none⟩))) := (h.fct 14 (by omega) h14).1 (by simp)
  have := cnt_le l
  rw [vcT_call]
  refine callM.toT ?_
  refine callW 1000 (pick_s b A cc code (p + cnt l) 24 s.z (hb.mono h.z) (by omega) hlen (by omega)) (by simp only [argsV, ev, hv]; rfl) h.look.1 h.look.2 rfl ?_
  rintro v z' A' hz ⟨x, rfl, rfl, rfl, hx0, hx1, _⟩
  have hx1 := hx1 (by omega)
  exact VS.id (h.call 15 (sv := .c (.v (.int .i64 x))) (by omega) hl (by simp [cnt, upd, hl, b1]; try omega) (by simp [nms, upd]) (by simp [Fct, isI]; omega))
theorem cfg_19 {l : Nat → Bool} {s : St} (h : InvC z0 b A code.length cc p l s) (hb : By z0 code (.slice A code.length cc)) (hp : 0 ≤ p ∧ p ≤ 800000) (hlen : code.length ≤ 2000) (hl : l 19 = false) (h18 : l 18 = true) : vcT Tryz.prog (.call 52 [.tmp 24, .const (.int .i64 2)]) (some 25) s (StpC z0 b A code.length cc p l 19) := by
  have hv : gt s.t 24 = .c (.v (.pointer (some ⟨b, 0, none⟩))) := (h.fct 18 (by omega) h18).1 (by simp)
  have := cnt_le l
  rw [vcT_call]
  refine callM.toT ?_
  refine callW 1000 (pick_s b A cc code (p + cnt l) 2 s.z (hb.mono h.z) (by omega) hlen (by omega)) (by simp only [argsV, ev, hv]; rfl) h.look.1 h.look.2 rfl ?_
  rintro v z' A' hz ⟨x, rfl, rfl, rfl, hx0, hx1, _⟩
  have hx1 := hx1 (by omega)
  exact VS.id (h.call 19 (sv := .c (.v (.int .i64 x))) (by omega) hl (by simp [cnt, upd, hl, b1]; try omega) (by simp [nms, upd]) (by simp [Fct, isI]; omega))
theorem cfg_23 {l : Nat → Bool} {s : St} (h : InvC z0 b A code.length cc p l s) (hb : By z0 code (.slice A code.length cc)) (hp : 0 ≤ p ∧ p ≤ 800000) (hlen : code.length ≤ 2000) (hl : l 23 = false) (h22 : l 22 = true) : vcT Tryz.prog (.call 52 [.tmp 28, .const (.int .i64 5)]) (some 29) s (StpC z0 b A code.length cc p l 23) := by
  have hv : gt s.t 28 = .c (.v (.pointer (some ⟨b, 0, none⟩))) := (h.fct 22 (by omega) h22).1 (by simp)
  have := cnt_le l
  rw [vcT_call]
  refine callM.toT ?_
  refine callW 1000 (pick_s b A cc code (p + cnt l) 5 s.z (hb.mono h.z) (by omega) hlen (by omega)) (by simp only [argsV, ev, hv]; rfl) h.look.1 h.look.2 rfl ?_
  rintro v z' A' hz ⟨x, rfl, rfl, rfl, hx0, hx1, _⟩
  have hx1 := hx1 (by omega)
  exact VS.id (h.call 23 (sv := .c (.v (.int .i64 x))) (by omega) hl (by simp [cnt, upd, hl, b1]; try omega) (by simp [nms, upd]) (by simp [Fct, isI]; omega))
theorem cfg_2 {l : Nat → Bool} {s : St} (h : InvC z0 b A nn cc p l s) (hl : l 2 = false) (h1 : l 1 = true) : vcT Tryz.prog (.bin .add (.const (.int .i64 1)) (.tmp 7)) (some 8) s (StpC z0 b A nn cc p l 2) := by
  have hf := h.fct 1 (by omega) h1
  have hi : isI 0 1 (gt s.t 7) := by simpa [Fct] using hf
  obtain ⟨x, hv, hx0, hx1⟩ := hi
  simp only [seval, go_sem, hv]
  exact VS.id (h.pure 2 (sv := .c (.v (.int .i64 (IntKind.i64.wrap (1 + x))))) (by omega) hl (by simp [cnt, upd]) (by simp [nms, upd]) (by rw [wrap_in (by omega) (by omega)]; simp [Fct, isI]; omega))
theorem cfg_5 {l : Nat → Bool} {s : St} (h : InvC z0 b A nn cc p l s) (hl : l 5 = false) (h4 : l 4 = true) : vcT Tryz.prog (.bin .add (.const (.int .i64 1)) (.tmp 10)) (some 11) s (StpC z0 b A nn cc p l 5) := by
  have hf := h.fct 4 (by omega) h4
  have hi : isI 0 3 (gt s.t 10) := by simpa [Fct] using hf
  obtain ⟨x, hv, hx0, hx1⟩ := hi
  simp only [seval, go_sem, hv]
  exact VS.id (h.pure 5 (sv := .c (.v (.int .i64 (IntKind.i64.wrap (1 + x))))) (by omega) hl (by simp [cnt, upd]) (by simp [nms, upd]) (by rw [wrap_in (by omega) (by omega)]; simp [Fct, isI]; omega))
theorem cfg_8 {l : Nat → Bool} {s : St} (h : InvC z0 b A nn cc p l s) (hl : l 8 = false) (h7 : l 7 = true) : vcT Tryz.prog (.bin .add (.const (.int .i64 1)) (.tmp 13)) (some 14) s (StpC z0 b A nn cc p l 8) := by
  have hf := h.fct 7 (by omega) h7
  have hi : isI 0 7 (gt s.t 13) := by simpa [Fct] using hf
  obtain ⟨x, hv, hx0, hx1⟩ := hi
  simp only [seval, go_sem, hv]
  exact VS.id (h.pure 8 (sv := .c (.v (.int .i64 (IntKind.i64.wrap (1 + x))))) (by omega) hl (by simp [cnt, upd]) (by simp [nms, upd]) (by rw [wrap_in (by omega) (by omega)]; simp [Fct, isI]; omega))
theorem cfg_16 {l : Nat → Bool} {s : St} (h : InvC z0 b A nn cc p l s) (hl : l 16 = false) (h15 : l 15 = true) : vcT Tryz.prog (.bin .add (.const (.int .i64 1)) (.tmp 21)) (some 22) s (StpC z0 b A nn cc p l 16) := by
  have hf := h.fct 15 (by omega) h15
  have hi : isI 0 23 (gt s.t 21) := by simpa [Fct] using hf
  obtain ⟨x, hv, hx0, hx1⟩ := hi
  simp only [seval, go_sem, hv]
  exact VS.id (h.pure 16 (sv := .c (.v (.int .i64 (IntKind.i64.wrap (1 + x))))) (by omega) hl (by simp [cnt, upd]) (by simp [nms, upd]) (by rw [wrap_in (by omega) (by omega)]; simp [Fct, isI]; omega))
theorem cfg_24 {l : Nat → Bool} {s : St} (h : InvC z0 b A nn cc p l s) (hl : l 24 = false) (h23 : l 23 = true) : vcT Tryz.prog (.bin .add (.const (.int .i64 1)) (.tmp 29)) (some 30) s (StpC z0 b A nn cc p l 24) := by
  have hf := h.fct 23 (by omega) h23
  have hi : isI 0 4 (gt s.t 29) := by simpa [Fct] using hf
  obtain ⟨x, hv, hx0, hx1⟩ := hi
  simp only [seval, go_sem, hv]
  exact VS.id (h.pure 24 (sv := .c (.v (.int .i64 (IntKind.i64.wrap (1 + x))))) (by omega) hl (by simp [cnt, upd]) (by simp [nms, upd]) (by rw [wrap_in (by omega) (by omega)]; simp [Fct, isI]; omega))
end
section
variable {z0 : Zc} {b : Nat} {A : Option Addr} {nn cc : Nat} {p : Int} {code : List Int}
theorem cfg_9 {l : Nat → Bool} {s : St} (h : InvC z0 b A nn cc p l s) (hl : l 9 = false) (h8 : l 8 = true) : vcT Tryz.prog (.bsl 3 1 3 [.int .i64 0] [(0, .tmp 14), (1, .const (.int .i64 3)), (2, .const (.int .i64 8))]) (some 15) s (StpC z0 b A nn cc p l 9) := by
  have hf := h.fct 8 (by omega) h8
  have hi : isI 1 8 (gt s.t 14) := by simpa [Fct] using hf
  obtain ⟨x, hv, hx0, hx1⟩ := hi
  simp only [seval, go_sem, hv]
  refine VS.frz s.n (e := 3) (cs := [.v (.int .i64 x), .v (.int .i64 3), .v (.int .i64 8)]) (by simp [look]) rfl fun b' z' hz hr => VS.id (h.bsl 9 (sv := .c (.s s.n 0 3 3)) (by omega) hl (by simp [cnt, upd]) (by simp [nms, upd, hl, b1]; try omega) hz ?_)
  have e : subV s.n b' (.c (.s s.n 0 3 3)) = .c (.v (.slice (some ⟨b', 0, none⟩) 3 3)) := by simp [subV, subC]
  rw [e]
  simp [Fct]
  exact ⟨⟨b', 0, rfl⟩, x, hr, hx0, hx1⟩
theorem cfg_17 {l : Nat → Bool} {s : St} (h : InvC z0 b A nn cc p l s) (hl : l 17 = false) (h8 : l 16 = true) : vcT Tryz.prog (.bsl 3 1 2 [.int .i64 0] [(0, .const (.int .i64 24)), (1, .tmp 22)]) (some 23) s (StpC z0 b A nn cc p l 17) := by
  have hf := h.fct 16 (by omega) h8
  have hi : isI 1 24 (gt s.t 22) := by simpa [Fct] using hf
  obtain ⟨x, hv, hx0, hx1⟩ := hi
  simp only [seval, go_sem, hv]
  refine VS.frz s.n (e := 3) (cs := [.v (.int .i64 24), .v (.int .i64 x)]) (by simp [look]) rfl fun b' z' hz hr => VS.id (h.bsl 17 (sv := .c (.s s.n 0 2 2)) (by omega) hl (by simp [cnt, upd]) (by simp [nms, upd, hl, b1]; try omega) hz ?_)
  have e : subV s.n b' (.c (.s s.n 0 2 2)) = .c (.v (.slice (some ⟨b', 0, none⟩) 2 2)) := by simp [subV, subC]
  rw [e]
  simp [Fct]
  exact ⟨⟨b', 0, rfl⟩, x, hr, hx0, hx1⟩
theorem cfg_12 {l : Nat → Bool} {s : St} (h : InvC z0 b A nn cc p l s) (hl : l 12 = false) (h9 : l 9 = true) (h11 : l 11 = true) : vcT Tryz.prog (.iad (.tmp 15) (.tmp 17) 1) (some 18) s (StpC z0 b A nn cc p l 12) := by
  have hf := h.fct 9 (by omega) h9
  obtain ⟨B, x, hv, hB, hr, hx⟩ : ∃ A x, gt s.t 15 = .c (.v (.slice A 3 3)) ∧ IsAt A ∧ RdAt s.z A 0 [.int .i64 x, .int .i64 3, .int .i64 8] ∧ 1 ≤ x ∧ x ≤ 8 := by simpa [Fct] using hf
  have hf := h.fct 11 (by omega) h11
  have hi : isI 0 2 (gt s.t 17) := by simpa [Fct] using hf
  obtain ⟨y, hw, hy0, hy1⟩ := hi
  simp only [seval, go_sem, hv, hw]
  refine ⟨⟨hy0, by omega, hB⟩, VS.id (h.pure 12 (sv := .c (.f B (y.toNat * 1))) (by omega) hl (by simp [cnt, upd]) (by simp [nms, upd]) ?_)⟩
  have : y = 0 ∨ y = 1 ∨ y = 2 := by omega
  simp [Fct]
  rcases this with rfl | rfl | rfl
  · exact ⟨B, 0, x, rfl, hr.cell 0 rfl, hx⟩
  · exact ⟨B, 1, 3, rfl, hr.cell 1 rfl, by omega, by omega⟩
  · exact ⟨B, 2, 8, rfl, hr.cell 2 rfl, by omega, by omega⟩
theorem cfg_20 {l : Nat → Bool} {s : St} (h : InvC z0 b A nn cc p l s) (hl : l 20 = false) (h9 : l 17 = true) (h11 : l 19 = true) : vcT Tryz.prog (.iad (.tmp 23) (.tmp 25) 1) (some 26) s (StpC z0 b A nn cc p l 20) := by
  have hf := h.fct 17 (by omega) h9
  obtain ⟨B, x, hv, hB, hr, hx⟩ : ∃ A x, gt s.t 23 = .c (.v (.slice A 2 2)) ∧ IsAt A ∧ RdAt s.z A 0 [.int .i64 24, .int .i64 x] ∧ 1 ≤ x ∧ x ≤ 24 := by simpa [Fct] using hf
  have hf := h.fct 19 (by omega) h11
  have hi : isI 0 1 (gt s.t 25) := by simpa [Fct] using hf
  obtain ⟨y, hw, hy0, hy1⟩ := hi
  simp only [seval, go_sem, hv, hw]
  refine ⟨⟨hy0, by omega, hB⟩, VS.id (h.pure 20 (sv := .c (.f B (y.toNat * 1))) (by omega) hl (by simp [cnt, upd]) (by simp [nms, upd]) ?_)⟩
  have : y = 0 ∨ y = 1 := by omega
  simp [Fct]
  rcases this with rfl | rfl
  · exact ⟨B, 0, 24, rfl, hr.cell 0 rfl, by omega, by omega⟩
  · exact ⟨B, 1, x, rfl, hr.cell 1 rfl, hx⟩
theorem cfg_13 {l : Nat → Bool} {s : St} (h : InvC z0 b A nn cc p l s) (hl : l 13 = false) (hj : l 12 = true) : vcT Tryz.prog (.ld (.tmp 18) 1 false) (some 19) s (StpC z0 b A nn cc p l 13) := by
  have hf := h.fct 12 (by omega) hj
  have hi : isF s.z 8 (gt s.t 18) := by simpa [Fct] using hf
  obtain ⟨B, o, x, hv, hr, hx0, hx1⟩ := hi
  simp only [seval, go_sem, hv]
  refine ldF.one _ (.inl hr) ?_
  exact VS.id (h.pure 13 (sv := .c (.v (.int .i64 x))) (by omega) hl (by simp [cnt, upd]) (by simp [nms, upd]) (by simp [Fct, isI]; omega))
theorem cfg_21 {l : Nat → Bool} {s : St} (h : InvC z0 b A nn cc p l s) (hl : l 21 = false) (hj : l 20 = true) : vcT Tryz.prog (.ld (.tmp 26) 1 false) (some 27) s (StpC z0 b A nn cc p l 21) := by
  have hf := h.fct 20 (by omega) hj
  have hi : isF s.z 24 (gt s.t 26) := by simpa [Fct] using hf
  obtain ⟨B, o, x, hv, hr, hx0, hx1⟩ := hi
  simp only [seval, go_sem, hv]
  refine ldF.one _ (.inl hr) ?_
  exact VS.id (h.pure 21 (sv := .c (.v (.int .i64 x))) (by omega) hl (by simp [cnt, upd]) (by simp [nms, upd]) (by simp [Fct, isI]; omega))
theorem cfg_25 {l : Nat → Bool} {s : St} (h : InvC z0 b A nn cc p l s) (hl : l 25 = false) (h2 : l 2 = true) (h5 : l 5 = true) (h13 : l 13 = true) (h21 : l 21 = true) (h24 : l 24 = true) : vcT Tryz.prog (.bld [.int .i64 0, .int .i64 0, .int .i64 0, .int .i64 0, .int .i64 0] [(0, 1, .tmp 8), (1, 1, .tmp 11), (2, 1, .tmp 19), (3, 1, .tmp 27), (4, 1, .tmp 30)]) (some 31) s (StpC z0 b A nn cc p l 25) := by
  obtain ⟨a1, v1, k1, m1⟩ : isI 1 2 (gt s.t 8) := by simpa [Fct] using h.fct 2 (by omega) h2
  obtain ⟨a2, v2, k2, m2⟩ : isI 1 4 (gt s.t 11) := by simpa [Fct] using h.fct 5 (by omega) h5
  obtain ⟨a3, v3, k3, m3⟩ : isI 1 8 (gt s.t 19) := by simpa [Fct] using h.fct 13 (by omega) h13
  obtain ⟨a4, v4, k4, m4⟩ : isI 1 24 (gt s.t 27) := by simpa [Fct] using h.fct 21 (by omega) h21
  obtain ⟨a5, v5, k5, m5⟩ : isI 1 5 (gt s.t 30) := by simpa [Fct] using h.fct 24 (by omega) h24
  simp only [seval, go_sem, v1, v2, v3, v4, v5]
  refine VS.id (h.pure 25 (sv := .a [.v (.int .i64 a1), .v (.int .i64 a2), .v (.int .i64 a3), .v (.int .i64 a4), .v (.int .i64 a5)]) (by omega) hl (by simp [cnt, upd]) (by simp [nms, upd]) ?_)
  simp only [Fct]
  simp
  exact ⟨⟨a1, a2, a3, a4, a5⟩, ⟨rfl, rfl, rfl, rfl, rfl⟩, by dsimp only; omega, ⟨k2, m2⟩, ⟨k3, m3⟩, ⟨k4, m4⟩, ⟨k5, m5⟩⟩
theorem Le.perm {s : St} {L' : Ents} (hL : LeL L' s.L) : Le s ⟨s.t, L', s.z, s.n⟩ := fun C ρ a w hs => by
  obtain ⟨F, h1, h2⟩ := hs.mem
  obtain ⟨F', h3, h4⟩ := LeL.holds hL h1
  exact ⟨ρ, hs.df, hs.fr, hs.nm, F', h3, h2.less h4⟩
theorem cfg_26 {l : Nat → Bool} {s : St} (h : InvC z0 b A nn cc p l s) (hl : l 26 = false) : vcT Tryz.prog (.alc 24 [.int .i64 0, .int .i64 0, .int .i64 0, .int .i64 0, .int .i64 0]) (some 5) s (StpC z0 b A nn cc p l 26) := by
  have hn := h.n
  have hn4 := nms_le l
  have hn1 : 1 ≤ s.n := by rw [hn]; unfold nms; omega
  simp only [seval, go_sem]
  have hL : s.L = [(1000, .own (starL [rdA b A nn cc (p + cnt l)])), (0, .cells 24 z5)] ∧ l 27 = false := by
    rcases h.L with ⟨_, h2, h3⟩ | ⟨h1, _⟩ | ⟨h1, _⟩
    · exact ⟨h3, h2⟩
    · rw [h1] at hl; cases hl
    · rw [h1 26 (by omega)] at hl; cases hl
  rw [hL.1]
  refine VS.le (Le.perm (L' := [(1000, .own (starL [rdA b A nn cc (p + cnt l)])), (s.n, .cells 24 z5), (0, .cells 24 z5)]) ?_) ?_
  · simp [LeL, look, del, show s.n ≠ 1000 by omega, show s.n ≠ 0 by omega]
  · have hc : cnt (upd l 26) = cnt l := by simp [cnt, upd]
    refine ⟨h.z, by simp [nms, upd, hl, b1] at hn ⊢; omega, by rw [st_len]; exact h.len, ?_, ?_, ?_, fun j hj hlj => ?_, ?_⟩
    · rw [gt_st_ne _ (by omega)]; exact h.g0
    · rw [gt_st_ne _ (by omega)]; exact h.g1
    · rw [gt_st_ne _ (by omega)]; exact h.g4
    · rw [gt_st_ne _ (by omega)]; rw [upd_ne l (by omega)] at hlj; exact h.fct j hj hlj
    · rw [hc]
      exact .inr (.inl ⟨upd_eq _ _, by rw [upd_ne l (by omega)]; exact hL.2, s.n, hn1, by dsimp only; omega, by rw [gt_st_eq _ (by rw [h.len]; omega)], rfl⟩)
theorem cfg_27 {l : Nat → Bool} {s : St} (h : InvC z0 b A nn cc p l s) (hl : l 27 = false) (ha : ∀ j, j < 27 → l j = true) : vcT Tryz.prog (.sto (.tmp 5) (.tmp 31) 5) none s (StpC z0 b A nn cc p l 27) := by
  have hn := h.n
  have hn4 := nms_le l
  obtain ⟨c, hv, hc⟩ : ∃ c : Cfg, gt s.t 31 = .a [.v (.int .i64 c.mode), .v (.int .i64 c.win), .v (.int .i64 c.mps), .v (.int .i64 c.mtu), .v (.int .i64 c.tri)] ∧ CfgI c := by simpa [Fct] using h.fct 25 (by omega) (ha 25 (by omega))
  obtain ⟨k, hk1, hk2, g5, hL⟩ : ∃ k, 1 ≤ k ∧ k < s.n ∧ gt s.t 5 = .c (.p k 0) ∧ s.L = [(1000, .own (starL [rdA b A nn cc (p + cnt l)])), (k, .cells 24 z5), (0, .cells 24 z5)] := by
    rcases h.L with ⟨h1, _⟩ | ⟨_, _, k, h3⟩ | ⟨h1, _⟩
    · rw [ha 26 (by omega)] at h1; cases h1
    · exact ⟨k, h3⟩
    · rw [h1 27 (by omega)] at hl; cases hl
  simp only [seval, go_sem, g5, hv, hL]
  have e1 : (1000 = k) = False := by simp; omega
  simp only [seval, go_sem, e1]
  have e2 : del k s.L = [(1000, .own (starL [rdA b A nn cc (p + cnt l)])), (0, .cells 24 z5)] := by rw [hL]; simp [del, show (1000 : Nat) ≠ k by omega]
  rw [e2]
  refine VS.le (Le.perm (L' := [(1000, .own (starL [rdA b A nn cc (p + cnt l)])), (k, .cells 24 (c5 c)), (0, .cells 24 z5)]) ?_) ?_
  · simp [LeL, look, del, show k ≠ 1000 by omega, show k ≠ 0 by omega]
  · have hc' : cnt (upd l 27) = cnt l := by simp [cnt, upd]
    refine ⟨h.z, by simpa [nms, upd] using hn, h.len, h.g0, h.g1, h.g4, fun j hj hlj => ?_, ?_⟩
    · rw [upd_ne l (by omega)] at hlj; exact h.fct j hj hlj
    · rw [hc']
      refine .inr (.inr ⟨fun j hj => ?_, k, c, hk1, hk2, g5, hc, rfl⟩)
      by_cases e : j = 27
      · subst e; exact upd_eq _ _
      · rw [upd_ne l e]; exact ha j (by omega)
end
theorem leT_any : ∀ (l : List SV) (n : Nat), l.length = n → LeT l (List.replicate n .any)
  | [], 0, _ => trivial
  | _ :: l, n + 1, h => ⟨.inl rfl, leT_any l n (by simpa using h)⟩
  | [], n + 1, h => by cases h
  | _ :: _, 0, h => by cases h
theorem leT_st {v : SV} : ∀ {l m : List SV} {n : Nat}, LeT l m → gt l n = v → LeT l (st m n v)
  | [], [], _, h, _ => h
  | x :: l, y :: m, 0, h, e => ⟨.inr e, h.2⟩
  | x :: l, y :: m, n + 1, h, e => ⟨h.1, leT_st h.2 e⟩
  | [], _ :: _, _, h, _ => h.elim
  | _ :: _, [], _, h, _ => h.elim
theorem cfg_s (b : Nat) (A : Option Addr) (cc : Nat) (code : List Int) (p : Int) (z : Zc) (hb : By z code (.slice A code.length cc)) (hp : 0 ≤ p ∧ p ≤ 800000) (hlen : code.length ≤ 2000) :
    Spec Tryz.prog 50 [.pointer (some ⟨b, 0, none⟩), .int .i64 0] z (starL [rdA b A code.length cc p]) fun v z' A' => ∃ (c : Cfg) (p' : Int), v = vCfg c ∧ A' = starL [rdA b A code.length cc p'] ∧ CfgI c ∧ p ≤ p' ∧ p' ≤ p + 7 := by
  refine spec_mid Tryz.func50 md50_ok fr50_ok Tryz.ntmps50 (InvC z b A code.length cc p) ?_ ?_ ?_
  · simp only [seval, go_sem]
    rw [endK_normal]
    refine VS.le (Le.perm (L' := [(1000, .own (starL [rdA b A code.length cc p])), (0, .cells 24 z5)]) ⟨rfl, rfl, trivial⟩) ?_
    refine ⟨Zc.rfl' _, rfl, rfl, rfl, rfl, rfl, fun i _ h => (by cases h), .inl ⟨rfl, rfl, ?_⟩⟩
    simp [cnt, b1, del]
  · intro l s i r hr hI hl ha
    rcases i with _ | i
    · obtain rfl := Option.some.inj (show some _ = some r from hr); exact cfg_0 hI hl
    rcases i with _ | i
    · obtain rfl := Option.some.inj (show some _ = some r from hr); exact cfg_1 hI hb hp hlen hl (ha 0 (by decide))
    rcases i with _ | i
    · obtain rfl := Option.some.inj (show some _ = some r from hr); exact cfg_2 hI hl (ha 1 (by decide))
    rcases i with _ | i
    · obtain rfl := Option.some.inj (show some _ = some r from hr); exact cfg_3 hI hl
    rcases i with _ | i
    · obtain rfl := Option.some.inj (show some _ = some r from hr); exact cfg_4 hI hb hp hlen hl (ha 3 (by decide))
    rcases i with _ | i
    · obtain rfl := Option.some.inj (show some _ = some r from hr); exact cfg_5 hI hl (ha 4 (by decide))
    rcases i with _ | i
    · obtain rfl := Option.some.inj (show some _ = some r from hr); exact cfg_6 hI hl
    rcases i with _ | i
    · obtain rfl := Option.some.inj (show some _ = some r from hr); exact cfg_7 hI hb hp hlen hl (ha 6 (by decide))
    rcases i with _ | i
    · obtain rfl := Option.some.inj (show some _ = some r from hr); exact cfg_8 hI hl (ha 7 (by decide))
    rcases i with _ | i
    · obtain rfl := Option.some.inj (show some _ = some r from hr); exact cfg_9 hI hl (ha 8 (by decide))
    rcases i with _ | i
    · obtain rfl := Option.some.inj (show some _ = some r from hr); exact cfg_10 hI hl
    rcases i with _ | i
    · obtain rfl := Option.some.inj (show some _ = some r from hr); exact cfg_11 hI hb hp hlen hl (ha 10 (by decide))
    rcases i with _ | i
    · obtain rfl := Option.some.inj (show some _ = some r from hr); exact cfg_12 hI hl (ha 9 (by decide)) (ha 11 (by decide))
    rcases i with _ | i
    · obtain rfl := Option.some.inj (show some _ = some r from hr); exact cfg_13 hI hl (ha 12 (by decide))
    rcases i with _ | i
    · obtain rfl := Option.some.inj (show some _ = some r from hr); exact cfg_14 hI hl
    rcases i with _ | i
    · obtain rfl := Option.some.inj (show some _ = some r from hr); exact cfg_15 hI hb hp hlen hl (ha 14 (by decide))
    rcases i with _ | i
    · obtain rfl := Option.some.inj (show some _ = some r from hr); exact cfg_16 hI hl (ha 15 (by decide))
    rcases i with _ | i
    · obtain rfl := Option.some.inj (show some _ = some r from hr); exact cfg_17 hI hl (ha 16 (by decide))
    rcases i with _ | i
    · obtain rfl := Option.some.inj (show some _ = some r from hr); exact cfg_18 hI hl
    rcases i with _ | i
    · obtain rfl := Option.some.inj (show some _ = some r from hr); exact cfg_19 hI hb hp hlen hl (ha 18 (by decide))
    rcases i with _ | i
    · obtain rfl := Option.some.inj (show some _ = some r from hr); exact cfg_20 hI hl (ha 17 (by decide)) (ha 19 (by decide))
    rcases i with _ | i
    · obtain rfl := Option.some.inj (show some _ = some r from hr); exact cfg_21 hI hl (ha 20 (by decide))
    rcases i with _ | i
    · obtain rfl := Option.some.inj (show some _ = some r from hr); exact cfg_22 hI hl
    rcases i with _ | i
    · obtain rfl := Option.some.inj (show some _ = some r from hr); exact cfg_23 hI hb hp hlen hl (ha 22 (by decide))
    rcases i with _ | i
    · obtain rfl := Option.some.inj (show some _ = some r from hr); exact cfg_24 hI hl (ha 23 (by decide))
    rcases i with _ | i
    · obtain rfl := Option.some.inj (show some _ = some r from hr); exact cfg_25 hI hl (ha 2 (by decide)) (ha 5 (by decide)) (ha 13 (by decide)) (ha 21 (by decide)) (ha 24 (by decide))
    rcases i with _ | i
    · obtain rfl := Option.some.inj (show some _ = some r from hr); exact cfg_26 hI hl
    rcases i with _ | i
    · obtain rfl := Option.some.inj (show some _ = some r from hr); exact cfg_27 hI hl (fun j hj => ha j (by simp only [List.mem_cons, List.not_mem_nil, or_false]; omega))
    · cases hr
  · intro l s hall hI
    obtain ⟨k, c, hk1, hk2, g5, hc, hL⟩ : ∃ k c, 1 ≤ k ∧ k < s.n ∧ gt s.t 5 = .c (.p k 0) ∧ CfgI c ∧ s.L = [(1000, .own (starL [rdA b A code.length cc (p + cnt l)])), (k, .cells 24 (c5 c)), (0, .cells 24 z5)] := by
      rcases hI.L with ⟨h1, _⟩ | ⟨_, h1, _⟩ | ⟨_, h⟩
      · rw [hall 26 (by decide)] at h1; cases h1
      · rw [hall 27 (by decide)] at h1; cases h1
      · exact h
    have hn4 := nms_le l
    have hc7 := cnt_le l
    have hn := hI.n
    refine VS.le (s' := ⟨updL [(0, .c (.v (.pointer (some ⟨b, 0, none⟩)))), (1, .c (.v (.int .i64 0))), (4, .c (.p 0 0)), (5, .c (.p k 0))] (List.replicate 76 .any), s.L, s.z, s.n⟩) (Le.of ?_ ?_ rfl (Nat.le_refl _) ⟨?_, ?_⟩) ?_
    · exact leT_st (leT_st (leT_st (leT_st (leT_any _ _ hI.len) hI.g0) hI.g1) hI.g4) g5
    · rw [hL]; simp [LeL, look, del, show k ≠ 1000 by omega, show k ≠ 0 by omega]
    · simp [updL, st, List.replicate, SV.wf, SC.wf]; omega
    · rw [hL]; simp [wfL, SC.wf]; omega
    · have hk : k = 1 ∨ k = 2 ∨ k = 3 := by omega
      obtain ⟨t, L, z', n⟩ := s
      dsimp only at *
      subst hL
      have hpp : p ≤ p + (cnt l : Int) ∧ p + (cnt l : Int) ≤ p + 7 := by omega
      generalize p + (cnt l : Int) = p' at *
      rcases hk with rfl | rfl | rfl
      · simp only [seval, go_sem, fr50]
        refine tT ?_; refine callW 1000 (odd0 b A code.length cc p' z') rfl rfl rfl rfl ?_; rintro v z1 A1 hz1 ⟨rfl, rfl, rfl⟩; refine gO ?_
        refine fQ ?_
        exact ⟨c, p', rfl, rfl, hc, by omega, by omega⟩
      · simp only [seval, go_sem, fr50]
        refine tT ?_; refine callW 1000 (odd0 b A code.length cc p' z') rfl rfl rfl rfl ?_; rintro v z1 A1 hz1 ⟨rfl, rfl, rfl⟩; refine gO ?_
        refine fQ ?_
        exact ⟨c, p', rfl, rfl, hc, by omega, by omega⟩
      · simp only [seval, go_sem, fr50]
        refine tT ?_; refine callW 1000 (odd0 b A code.length cc p' z') rfl rfl rfl rfl ?_; rintro v z1 A1 hz1 ⟨rfl, rfl, rfl⟩; refine gO ?_
        refine fQ ?_
        exact ⟨c, p', rfl, rfl, hc, by omega, by omega⟩
set_option maxHeartbeats 4000000
def eRep : Rep Evt where
  sz := 5
  K := fun z e cs => ∃ v, cs = [.int .i64 e.kind, .int .i64 e.who, .int .i64 e.at_, .int .i64 e.v, v] ∧ By z e.data v
  len := by rintro z x cs ⟨v, rfl, _⟩; rfl
  one := by rintro z x cs ⟨v, rfl, h⟩ u hu; simp at hu; rcases hu with rfl | rfl | rfl | rfl | rfl; rfl; rfl; rfl; rfl; exact h.one
  mono := by rintro z z' x cs hz ⟨v, rfl, h⟩; exact ⟨v, rfl, Sl.mono hz h⟩
theorem WldR.mono {z z' : Zc} {e0 e1 : End} {n0 n1 : List Msg} {m : WM} (hz : z ≤ z') (h : WldR z e0 e1 n0 n1 m) : WldR z' e0 e1 n0 n1 m := ⟨h.e0.mono hz, h.e1.mono hz, h.n0, h.n1⟩
theorem atyV : AppTy Tryz.prog 25 35 5 := AppTy.of (by kernel_rfl)
structure PlayS where
  k : Nat
  p : Int
  evs : List Evt
  cs : List Value
  A : Option Addr
  C : Nat
  e0 : End
  e1 : End
  n0 : List Msg
  n1 : List Msg
  link : Int
  m : WM
  z : Zc
def PlayH (v : Value) (z : Zc) (A : Asrt) : Prop := ∃ (c : Cfg) (evs : List Evt) (B : Option Addr) (k : Nat) (link : Int) (m : WM) (e0 e1 : End) (n0 n1 : List Msg), v = .tuple #[vCfg c, .slice B evs.length k, wldV c link m] ∧ A = wldA e0 e1 n0 n1 m ∧ WldR z e0 e1 n0 n1 m ∧ WldI ⟨c, [e0, e1], [n0, n1], link⟩ ∧ Sl eRep z evs (.slice B evs.length k) ∧ CfgI c ∧ c.mode = 2 ∧ (∀ e ∈ evs, EvC e) ∧ evs.length ≤ 140
theorem wldH_of {c : Cfg} {w : Wld} {u : Value} {z : Zc} {A : Asrt} (h : WldH c w u z A) (hI : WldI w) : ∃ e0 e1 n0 n1 m link, u = wldV c link m ∧ A = wldA e0 e1 n0 n1 m ∧ WldR z e0 e1 n0 n1 m ∧ WldI ⟨c, [e0, e1], [n0, n1], link⟩ := by
  obtain ⟨e0, e1, n0, n1, m, h1, h2, h3, h4, h5, h6⟩ := h
  obtain ⟨c', es, ns, link⟩ := w
  dsimp only at h1 h2 h3 h4
  subst h1 h2 h3
  exact ⟨e0, e1, n0, n1, m, link, h4, h5, h6, hI⟩
theorem play_s (b : Nat) (A : Option Addr) (cc : Nat) (code : List Int) (z : Zc) (hb : By z code (.slice A code.length cc)) (hlen : code.length ≤ 2000) :
    Spec Tryz.prog 24 [.pointer (some ⟨b, 0, none⟩), .int .i64 140, .int .i64 2, .bool false, .bool false] z (starL [rdA b A code.length cc 0]) PlayH := by
  (refine spec_enter1 Tryz.func24 ic24_ok fr24_ok Tryz.ntmps24 ?_; simp only [seval, go_sem, ic24, fr24])
  refine gO ?_
  refine tT ?_; refine callW 1000 (cfg_s b A cc code 0 z hb (by omega) hlen) rfl rfl rfl rfl ?_; rintro v1 z1 A1 hz1 ⟨⟨q1, q2, q3, q4, q5⟩, p1, rfl, rfl, hc1, hp1, hp1'⟩; refine gO ?_
  try simp only [seval, go_sem, show decide ((2 : Int) > 0) = true from rfl]
  refine gO ?_
  have hc : CfgI ⟨2, q2, q3, q4, q5⟩ := ⟨.inr rfl, hc1.win, hc1.mps, hc1.mtu, hc1.tri⟩
  refine tT ?_; refine callO 1001 ((new_s ⟨2, q2, q3, q4, q5⟩ z1 (cfgOk_iff.2 hc)).mono fun _ _ _ _ h => wldH_of h (wldNew_I hc)) rfl rfl rfl ?_; rintro v2 z2 A2 hz2 ⟨e0, e1, n0, n1, m, link, rfl, rfl, hR, hW⟩; refine gO ?_
  refine tT ?_; refine callW 1000 (pick_s b A cc code p1 140 z2 ((hb.mono hz1).mono hz2) (by omega) hlen (by omega)) rfl rfl rfl rfl ?_; rintro v3 z3 A3 hz3 ⟨x, rfl, rfl, rfl, hx0, hx1, _⟩; refine gO ?_
  have hx1 := hx1 (by omega)
  obtain ⟨k0, rfl⟩ := Int.eq_ofNat_of_zero_le hx0
  refine loopV.toRow 90 4 rfl rfl (m := 0) (sz := 5) rfl (by omega) (fun b0 => ?_)
  simp only [seval, go_sem, rowSt, subV, subC, subE, subL]
  refine loop_upd (ι := PlayS) (n := 5) (fun s => z2 ≤ s.z ∧ s.k + s.evs.length = k0 ∧ p1 ≤ s.p ∧ s.p ≤ p1 + 1 + 200 * s.evs.length ∧ Els eRep s.z s.evs s.cs ∧ s.evs.length ≤ s.C ∧ (∀ e ∈ s.evs, EvC e) ∧ WldR s.z s.e0 s.e1 s.n0 s.n1 s.m ∧ WldI ⟨⟨2, q2, q3, q4, q5⟩, [s.e0, s.e1], [s.n0, s.n1], s.link⟩) (fun s => [(15, .c (.v (.slice s.A s.evs.length s.C))), (16, .c (.v (.int .i64 s.k)))])
    (fun s => [(1000, .own (starL [rdA b A code.length cc s.p])), (1001, .own (wldA s.e0 s.e1 s.n0 s.n1 s.m)), (90, .own (rowA 35 5 (.slice s.A s.evs.length s.C) s.evs.length s.cs)), (3, .cells 31 [.v (.int .i64 2), .v (.int .i64 q2), .v (.int .i64 q3), .v (.int .i64 q4), .v (.int .i64 q5), .v (.slice s.m.E 2 s.m.EC), .v (.slice s.m.N 2 s.m.NC), .v (.int .i64 s.link)]), (2, .cells 24 [.v (.int .i64 2), .v (.int .i64 q2), .v (.int .i64 q3), .v (.int .i64 q4), .v (.int .i64 q5)]), (1, .cells 31 [.v (.int .i64 0), .v (.int .i64 0), .v (.int .i64 0), .v (.int .i64 0), .v (.int .i64 0), .v (.slice none 0 0), .v (.slice none 0 0), .v (.int .i64 0)]), (0, .cells 24 z5)])
    (fun s => s.z) (fun s => s.k) ⟨k0, p1 + 1, [], [], some ⟨b0, 0, none⟩, 0, e0, e1, n0, n1, link, m, z2⟩ ⟨Zc.rfl' _, by simp, by dsimp only; omega, by simp, rfl, Nat.le_refl _, by simp, hR, hW⟩ (by (simp only [wrI, wrR, anyL, st, List.append_nil, List.nil_append, List.cons_append]); exact rfl) ?_ ?_
  · simp only [List.length_nil]
    exact lX
  · rintro ⟨k, p, evs, cs, EA, EC, e0, e1, n0, n1, link, m, y⟩ ⟨hy, hk, hp2, hp3, hE, hEC, hEv, hR, hW⟩
    dsimp only at *
    refine gO ?_
    (with_reducible refine condI.split (fun hg => ?_) (fun hg => ?_) <;> (try simp only [hg]) <;> (try simp only [seval, go_sem]))
    · have hk0 : 0 < k := by have := of_decide_eq_true hg; omega
      refine gO ?_
      refine tT ?_; refine callW 1000 (event_s b A cc code p ⟨2, q2, q3, q4, q5⟩ link m y (((hb.mono hz1).mono hz2).mono hy) (by omega) hlen ⟨hc.mtu.1, hc.mtu.2⟩) rfl rfl rfl rfl ?_; rintro v4 z4 A4 hz4 ⟨eV, B, bn, bc, p', rfl, rfl, hby, hev, hp4, hp5⟩; refine gO ?_
      have hr4 := WldR.mono hz4 hR
      refine aT ?_; (refine appM_newF 90 atyV rfl rfl rfl rfl rfl rfl rfl (by simp [Value.oneCell']) (by omega) (fun A6 c6 hc6 hat6 => ?_)); simp only [seval, go_sem]
      refine gO ?_
      obtain ⟨hk1, hwho, hdl⟩ := hev
      have hEv' : ∀ x ∈ evs ++ [eV], EvC x := fun x hx => by
        rcases List.mem_append.1 hx with hx | hx
        · exact hEv x hx
        · rw [List.mem_singleton.1 hx]; exact ⟨hk1, hwho, hdl⟩
      have hW' := step_I (g := true) hW eV
      have hwk : IntKind.i64.wrap ((k : Int) - 1) = ((k - 1 : Nat) : Int) := by rw [wrap_in (by omega) (by omega)]; omega
      rcases hwho with hw | hw
      · refine tT ?_; refine callW 1001 ((l9step_c0 ⟨2, q2, q3, q4, q5⟩ link e0 e1 n0 n1 m eV (.slice B bn bc) z4 hby (by omega) hr4 hW rfl hw ⟨hk1.1, by omega⟩).mono fun _ _ _ _ h => wldH_of h hW') rfl rfl rfl rfl ?_; rintro v5 z5 A5 hz5 ⟨e0', e1', n0', n1', m', link', rfl, rfl, hR5, hW5⟩; refine gO ?_
        refine gO ?_
        simp only [hwk]
        refine ⟨⟨k - 1, p', evs ++ [eV], cs ++ [.int .i64 eV.kind, .int .i64 eV.who, .int .i64 eV.at_, .int .i64 eV.v, .slice B bn bc], A6, c6, e0', e1', n0', n1', link', m', z5⟩, ⟨Zc.trans' hy (Zc.trans' hz4 hz5), by dsimp only; rw [List.length_append, List.length_singleton]; omega, by dsimp only; omega, by dsimp only; rw [List.length_append, List.length_singleton]; omega, ?_, by dsimp only; rw [List.length_append, List.length_singleton]; omega, hEv', hR5, hW5⟩, by dsimp only; omega, ?_⟩
        · exact Els.append (hE.mono (Zc.trans' hz4 hz5)) (Els.single ⟨_, rfl, hby.mono hz5⟩)
        · simp only [List.length_append, List.length_singleton]
          exact lX
      · refine tT ?_; refine callW 1001 ((l9step_c1 ⟨2, q2, q3, q4, q5⟩ link e0 e1 n0 n1 m eV (.slice B bn bc) z4 hby (by omega) hr4 hW rfl hw ⟨hk1.1, by omega⟩).mono fun _ _ _ _ h => wldH_of h hW') rfl rfl rfl rfl ?_; rintro v5 z5 A5 hz5 ⟨e0', e1', n0', n1', m', link', rfl, rfl, hR5, hW5⟩; refine gO ?_
        refine gO ?_
        simp only [hwk]
        refine ⟨⟨k - 1, p', evs ++ [eV], cs ++ [.int .i64 eV.kind, .int .i64 eV.who, .int .i64 eV.at_, .int .i64 eV.v, .slice B bn bc], A6, c6, e0', e1', n0', n1', link', m', z5⟩, ⟨Zc.trans' hy (Zc.trans' hz4 hz5), by dsimp only; rw [List.length_append, List.length_singleton]; omega, by dsimp only; omega, by dsimp only; rw [List.length_append, List.length_singleton]; omega, ?_, by dsimp only; rw [List.length_append, List.length_singleton]; omega, hEv', hR5, hW5⟩, by dsimp only; omega, ?_⟩
        · exact Els.append (hE.mono (Zc.trans' hz4 hz5)) (Els.single ⟨_, rfl, hby.mono hz5⟩)
        · simp only [List.length_append, List.length_singleton]
          exact lX
    · have hk0 : k = 0 := by have := of_decide_eq_false hg; omega
      subst hk0
      (try simp only [seval, go_sem])
      refine vsI.frzA 1001 rfl (RdA.wld hR) rfl (fun z6 hz6 hP6 => ?_)
      have hP6 := hP6 hz6
      simp only [seval, go_sem]
      (refine vsI.frzR 90 rfl rfl (fun A7 c7 z7 hv7 hc7 hz7 hr7 => ?_)); (first | subst hv7 | (injection hv7 with hv_1 hv_2 hv_3; subst hv_1; subst hv_3)); refine gO ?_
      refine tT ?_; refine callO 1001 ((copy_s ⟨2, q2, q3, q4, q5⟩ link e0 e1 n0 n1 m z7 (hP6.mono hz7) hW).mono fun _ _ _ _ h => wldH_of h hW) rfl rfl rfl ?_; rintro v8 z8 A8 hz8 ⟨e0', e1', n0', n1', m', link', rfl, rfl, hR8, hW8⟩; refine gO ?_
      (((try simp only [seval, go_sem]);repeat((with_reducible first|refine vJ ?_|refine vK ?_);try simp only [seval, go_sem])); refine FinV.own 1001 rfl ?_; simp only [finE, finS, gt, look, SV.toV, SC.toV, allV, tupV, zq1, zq2, zq3, zq4, Nat.reduceAdd, Nat.reduceEqDiff, reduceCtorEq, if_true, if_false, reduceIte, Nat.succ_ne_self, true_and, zq5, zq7, zq8])
      exact ⟨⟨2, q2, q3, q4, q5⟩, evs, _, _, link', m', e0', e1', n0', n1', rfl, rfl, hR8, hW8, ⟨_, _, _, rfl, hc7, hE.mono (Zc.trans' hz6 (Zc.trans' hz7 hz8)), hr7.mono hz8⟩, hc, rfl, hEv, by omega⟩
theorem drawCredit_s (code : List Int) (v : Value) (z : Zc) (h : By z code v) (hl : code.length ≤ 1000000000) : PSpec Tryz.prog 18 [v] z fun u z' => ∃ (c : Cfg) (evs : List Evt) (B : Option Addr) (k : Nat), u = .tuple #[vCfg c, .slice B evs.length k] ∧ Sl eRep z' evs (.slice B evs.length k) ∧ CfgI c ∧ c.mode = 2 ∧ (∀ e ∈ evs, EvC e) ∧ evs.length ≤ 140 := by
  obtain ⟨A0, c0, rfl, hc0, hB0, hr0⟩ := h.form
  (refine pspec_enter Tryz.func18 ic18_ok fr18_ok Tryz.ntmps18 ?_; simp only [seval, go_sem, ic18, fr18])
  refine gO ?_
  refine tT ?_; refine callO 1000 (open_s code _ z h hl) rfl rfl rfl ?_; rintro u z1 A1 hz1 ⟨b, A, c, cd, rfl, rfl, hcd, hby⟩; refine gO ?_
  refine tT ?_; refine callW 1000 (play_s b A c cd z1 hby hcd) rfl rfl rfl rfl ?_; rintro u z2 A2 hz2 ⟨cf, evs, B, k, link, m, e0, e1, n0, n1, rfl, rfl, hR, hW, hE, hc, hm, hev, hlen⟩; refine gO ?_
  (first|refine fN ?_|exact fZ)
  exact ⟨cf, evs, B, k, rfl, hE, hc, hm, hev, hlen⟩
set_option maxHeartbeats 1000000

theorem WldH.mk {c : Cfg} {e0 e1 : End} {n0 n1 : List Msg} {m : WM} {link : Int} {z : Zc} (h : WldR z e0 e1 n0 n1 m) : WldH c ⟨c, [e0, e1], [n0, n1], link⟩ (wldV c link m) z (wldA e0 e1 n0 n1 m) := ⟨e0, e1, n0, n1, m, rfl, rfl, rfl, rfl, rfl, h⟩
theorem says_take {w : Wld} {who : Nat} {l : List Frm} {i : Nat} {x : Frm} (h : l[i]? = some x) : says w who (l.take (i + 1)) = say1 (says w who (l.take i)) who x := by
  unfold says
  rw [List.take_add_one, h, List.foldl_append]
  rfl
structure WaysS where
  i : Nat
  e0 : End
  e1 : End
  n0 : List Msg
  n1 : List Msg
  link : Int
  m : WM
  z : Zc



theorem RdS.part {z : Zc} {L : Ents} {A : Option Addr} {o : Nat} {us : List Value} (k : Nat) {e sz n c : Nat} {cs : List Value} (hk : look k L = some (.own (rowA e sz (.slice A n c) n cs))) (h : ∀ i u, us[i]? = some u → cs[o + i]? = some u) : RdS z L A o us := .inr ⟨k, e, sz, n, c, cs, hk, h⟩
theorem FinV.toRow {s : St} {fr : List FR} {R : Value → Zc → Asrt → Prop} (k j : Nat) {e sz m : Nat} {cs : List SC} {vs : List Value} (hk : look j s.L = some (.cells e cs)) (hv : allV cs = some vs) (hl : vs.length = m * sz) (hm : m ≤ 1000000000) (h : ∀ b, FinV fr (rowSt s k j b e sz m vs) R) : FinV fr s R := fun C ρ a w hs => by
  obtain ⟨b, _, hs'⟩ := hs.toRow k j hk hv hl hm
  exact h b C ρ a w hs'
set_option maxHeartbeats 4000000
def ic35 : IC := (xR (xt (.box 24 (xr 0)) 2 (xt (.box 38 (xr 1)) 3 (xt (.mv (xb false)) 4 .done))) (xR (xtF 3 2 6 (xtO 6 7 (xtL 7 8 (xtM 8 5 .done)))) (xR (xlA 2 5 9 (xm (.call 26 [xr 9]) 10 (xpM 10 11 (.op .p (.fad (xr 3) 1) (some 12) (some (11, true)) (.op .l (.ld (xr 12) 1 false) (some 13) (some (11, true)) (.op .m (.call 32 [xr 13]) (some 14) (some (11, true)) (xp (.pick (xr 11) (xr 14) (xb false)) 15 (xpM 15 16 (.op .p (.fad (xr 3) 0) (some 17) (some (16, true)) (.op .l (.ld (xr 17) 1 false) (some 18) (some (16, true)) (.op .m (.call 32 [xr 18]) (some 19) (some (16, true)) (xp (.pick (xr 16) (xr 19) (xb false)) 20 (xpM 20 21 (.op .p (.fad (xr 3) 1) (some 22) (some (21, true)) (.op .l (.ld (xr 22) 1 false) (some 23) (some (21, true)) (.op .p (.fad (xr 3) 0) (some 24) (some (21, true)) (.op .l (.ld (xr 24) 1 false) (some 25) (some (21, true)) (.op .p (.mv (xr 5)) (some 27) (some (21, true)) (.op .m (.call 33 [xr 23, xr 25]) (some 26) (some (21, true)) (.op .p (.bin .eql (xr 26) (xr 27)) (some 28) (some (21, true)) (xp (.pick (xr 21) (xr 28) (xb false)) 29 (xpM 29 30 (.op .p (.mv (xr 5)) (some 31) (some (30, true)) (.op .p (.fad (xr 2) 1) (some 32) (some (30, true)) (.op .l (.ld (xr 32) 1 false) (some 33) (some (30, true)) (.op .p (.bin .leq (xr 31) (xr 33)) (some 34) (some (30, true)) (xp (.pick (xr 30) (xr 34) (xb false)) 35 (xpM 35 36 (.op .p (.fad (xr 3) 3) (some 37) (some (36, true)) (.op .l (.ld (xr 37) 1 false) (some 38) (some (36, true)) (.op .p (.mv (xr 5)) (some 39) (some (36, true)) (.op .m (.call 34 [xr 38, (xi 0), xr 39]) (some 40) (some (36, true)) (xp (.pick (xr 36) (xr 40) (xb false)) 41 (xpM 41 42 (.op .p (.fad (xr 3) 4) (some 43) (some (42, true)) (.op .l (.ld (xr 43) 1 false) (some 44) (some (42, true)) (.op .p (.len (xr 44)) (some 45) (some (42, true)) (.op .p (.bin .leq (xr 45) (xi 24)) (some 46) (some (42, true)) (xp (.pick (xr 42) (xr 46) (xb false)) 47 (xpM 47 48 (.op .p (.fad (xr 3) 6) (some 49) (some (48, true)) (.op .l (.ld (xr 49) 1 false) (some 50) (some (48, true)) (.op .p (.fad (xr 2) 4) (some 51) (some (48, true)) (.op .l (.ld (xr 51) 1 false) (some 52) (some (48, true)) (.op .m (.call 34 [xr 50, (xi 0), xr 52]) (some 53) (some (48, true)) (xp (.pick (xr 48) (xr 53) (xb false)) 54 (xpM 54 55 (.op .p (.fad (xr 3) 8) (some 56) (some (55, true)) (.op .l (.ld (xr 56) 1 false) (some 57) (some (55, true)) (.op .m (.call 34 [xr 57, (xi 0), (xi 9999)]) (some 58) (some (55, true)) (xp (.pick (xr 55) (xr 58) (xb false)) 59 (xpM 59 60 (.op .p (.fad (xr 3) 8) (some 61) (some (60, true)) (.op .l (.ld (xr 61) 1 false) (some 62) (some (60, true)) (.op .p (.fad (xr 3) 1) (some 64) (some (60, true)) (.op .l (.ld (xr 64) 1 false) (some 65) (some (60, true)) (.op .m (.call 62 [xr 62]) (some 63) (some (60, true)) (.op .p (.bin .eql (xr 63) (xr 65)) (some 66) (some (60, true)) (xp (.pick (xr 60) (xr 66) (xb false)) 67 (xpM 67 68 (.op .l (.ld (xr 2) 5 true) (some 69) (some (68, true)) (.op .p (.fad (xr 3) 2) (some 70) (some (68, true)) (.op .l (.ld (xr 70) 1 false) (some 71) (some (68, true)) (.op .m (.call 63 [xr 69, xr 71]) (some 72) (some (68, true)) (xp (.pick (xr 68) (xr 72) (xb false)) 73 (xpM 73 74 (.op .l (.ld (xr 2) 5 true) (some 75) (some (74, true)) (.op .p (.fad (xr 3) 4) (some 76) (some (74, true)) (.op .l (.ld (xr 76) 1 false) (some 77) (some (74, true)) (.op .m (.call 63 [xr 75, xr 77]) (some 78) (some (74, true)) (xp (.pick (xr 74) (xr 78) (xb false)) 79 (xpM 79 4 .done)))))))))))))))))))))))))))))))))))))))))))))))))))))))))))))))))))))))) .ret)))
theorem ic35_ok : Tryz.f35.body.bind (trC Tryz.prog []) = some ic35 := by kernel_rfl
def fr35 : List FR := [(FR.t 4)]
theorem fr35_ok : fres Tryz.prog Tryz.f35.results.toList = some fr35 := by kernel_rfl
def ic69 : IC := (xR (xt (.box 38 (xr 0)) 1 (xt (.alc 38 [zI, zI, zS, zI, zS, zB, zI, zB, zI, zB]) 2 .done)) (xR (xpF 1 2 3 (xlO 3 4 (xpF 1 4 6 (xlO 6 7 (xm (.call 106 [xr 4]) 5 (xpF 1 2 9 (xm (.call 106 [xr 7]) 8 (xS 9 5 1 (xpF 1 4 10 (xS 10 8 1 .done)))))))))) (xR (xtA 1 10 11 (xS 2 11 10 .done)) .ret)))
theorem ic69_ok : Tryz.f69.body.bind (trC Tryz.prog []) = some ic69 := by kernel_rfl
def fr69 : List FR := [(FR.c 2 10 true)]
theorem fr69_ok : fres Tryz.prog Tryz.f69.results.toList = some fr69 := by kernel_rfl
def ic36 : IC := (xR (xt (.box 42 (xr 0)) 1 (xt (.mv (xb false)) 2 .done)) (xR (xpF 1 0 3 (xlO 3 4 (xm (.call 32 [xr 4]) 5 (xpM 5 6 (.op .p (.fad (xr 1) 1) (some 7) (some (6, true)) (.op .l (.ld (xr 7) 1 false) (some 8) (some (6, true)) (.op .m (.call 34 [xr 8, (xi 0), (xi 9999)]) (some 9) (some (6, true)) (xp (.pick (xr 6) (xr 9) (xb false)) 10 (xpM 10 11 (.op .p (.fad (xr 1) 1) (some 12) (some (11, true)) (.op .l (.ld (xr 12) 1 false) (some 13) (some (11, true)) (.op .p (.fad (xr 1) 0) (some 15) (some (11, true)) (.op .l (.ld (xr 15) 1 false) (some 16) (some (11, true)) (.op .m (.call 62 [xr 13]) (some 14) (some (11, true)) (.op .p (.bin .eql (xr 14) (xr 16)) (some 17) (some (11, true)) (xp (.pick (xr 11) (xr 17) (xb false)) 18 (xpM 18 19 (.op .p (.fad (xr 1) 2) (some 20) (some (19, true)) (.op .l (.ld (xr 20) 2 true) (some 21) (some (19, true)) (.op .m (.call 64 [xr 21]) (some 22) (some (19, true)) (xp (.pick (xr 19) (xr 22) (xb false)) 23 (xpM 23 2 .done)))))))))))))))))))))) .ret))
theorem ic36_ok : Tryz.f36.body.bind (trC Tryz.prog []) = some ic36 := by kernel_rfl
def fr36 : List FR := [(FR.t 2)]
theorem fr36_ok : fres Tryz.prog Tryz.f36.results.toList = some fr36 := by kernel_rfl
def ic70 : IC := (xR (xt (.box 42 (xr 0)) 1 (xt (.alc 42 [zI, zI, zI, zS, zB, zB, zB]) 2 .done)) (xR (xtF 1 2 3 (xtF 3 1 4 (xtO 4 5 (xt (.call 29 [xr 5]) 6 (xtF 1 2 7 (xtF 7 1 8 (xS 8 6 1 .done))))))) (xR (xtA 1 7 9 (xS 2 9 7 .done)) .ret)))
theorem ic70_ok : Tryz.f70.body.bind (trC Tryz.prog []) = some ic70 := by kernel_rfl
def fr70 : List FR := [(FR.c 2 7 true)]
theorem fr70_ok : fres Tryz.prog Tryz.f70.results.toList = some fr70 := by kernel_rfl
set_option maxHeartbeats 1000000
theorem TxI.flSmall {c : Cfg} {t : Tx} (h : TxI c t) : ∀ p ∈ t.flight, p.data.length ≤ 8 := fun p hp => by have := (h.fl p hp).2; have := h.cfg.mps; omega
theorem TxI.quSmall {c : Cfg} {t : Tx} (h : TxI c t) : ∀ p ∈ t.queue, p.data.length ≤ 8 := fun p hp => by have := (h.qu p hp).2; have := h.cfg.mps; omega
theorem txok_i (c : Cfg) (t : Tx) (f q : Value) (z : Zc) (hI : TxI c t) (hf : Sl pRep z t.flight f) (hq : Sl pRep z t.queue q) : PSpec Tryz.prog 35 [vCfg c, vTx t f q] z fun u z' => u = .bool true := by
  obtain ⟨A, k, cs, rfl, hk, he, hr⟩ := hf
  obtain ⟨B, k2, cs2, rfl, hk2, he2, hr2⟩ := hq
  have hw := hI.win
  have hcw := hI.cfg.win
  have hac := hI.acked
  have hnx := hI.next
  have hq24 := hI.queue
  have hcn := hI.count
  have d1 : decide ((t.flight.length : Int) ≤ c.win) = true := decide_eq_true hw
  have d2 : decide ((t.queue.length : Int) ≤ 24) = true := decide_eq_true (by omega)
  have p1 : partsOk c t.flight = true := partsOk_iff.2 hI.fl
  have p2 : partsOk c t.queue = true := partsOk_iff.2 hI.qu
  (refine pspec_enter Tryz.func35 ic35_ok fr35_ok Tryz.ntmps35 ?_; simp only [seval, go_sem, ic35, fr35])
  refine gO ?_
  refine tT ?_; refine callP (cfgok_i c z) rfl rfl ?_; rintro _ _ - ⟨rfl, rfl⟩; refine gO ?_
  simp only [cfgOk_iff.2 hI.cfg]
  refine gO ?_
  refine tT ?_; refine callP (isnum t.acked z) rfl rfl ?_; rintro _ _ - ⟨rfl, rfl⟩; refine gO ?_
  simp only [isNum_iff.2 hac]
  refine gO ?_
  refine tT ?_; refine callP (isnum t.next z) rfl rfl ?_; rintro _ _ - ⟨rfl, rfl⟩; refine gO ?_
  simp only [isNum_iff.2 hnx]
  refine gO ?_
  refine tT ?_; refine callP (far_i t.acked t.next z (by omega) (by omega) (by omega)) rfl rfl ?_; rintro _ _ - ⟨rfl, rfl⟩; refine gO ?_
  try simp only [hI.far]
  simp only [seval, go_sem, beq_self_eq_true, d1]
  refine gO ?_
  refine tT ?_; refine callP (in_i t.sent 0 (t.flight.length : Int) z) rfl rfl ?_; rintro _ _ - ⟨rfl, rfl⟩; refine gO ?_
  simp only [inB_iff.2 hI.sent]
  simp only [seval, go_sem, d2]
  refine gO ?_
  refine tT ?_; refine callP (in_i t.tries 0 c.tri z) rfl rfl ?_; rintro _ _ - ⟨rfl, rfl⟩; refine gO ?_
  simp only [inB_iff.2 hI.tries]
  refine gO ?_
  refine tT ?_; refine callP (in_i t.count 0 9999 z) rfl rfl ?_; rintro _ _ - ⟨rfl, rfl⟩; refine gO ?_
  simp only [inB_iff.2 hcn]
  refine gO ?_
  refine tT ?_; refine callP (numof_i t.count z (by omega)) rfl rfl ?_; rintro _ _ - ⟨rfl, rfl⟩; refine gO ?_
  simp only [seval, go_sem, hI.num, beq_self_eq_true]
  refine gO ?_
  refine tT ?_; refine callP (partsok_i c t.flight _ z ⟨A, k, cs, rfl, hk, he, hr⟩ (by omega) (fun p hp => by have := hI.flSmall p hp; omega)) rfl rfl ?_; rintro u z1 hz1 rfl; refine gO ?_
  simp only [p1]
  refine gO ?_
  refine tT ?_; refine callP (partsok_i c t.queue _ z1 ⟨B, k2, cs2, rfl, hk2, he2.mono hz1, hr2.mono hz1⟩ (by omega) (fun p hp => by have := hI.quSmall p hp; omega)) rfl rfl ?_; rintro u z2 hz2 rfl; refine gO ?_
  simp only [p2]
  (first|refine fN ?_|exact fZ)
theorem txcopy_i (t : Tx) (f q : Value) (z : Zc) (hf : Sl pRep z t.flight f) (hq : Sl pRep z t.queue q) (hl : t.flight.length ≤ 1000000) (hl2 : t.queue.length ≤ 1000000) (hp : ∀ p ∈ t.flight, p.data.length ≤ 1000000000) (hp2 : ∀ p ∈ t.queue, p.data.length ≤ 1000000000) :
    PSpec Tryz.prog 69 [vTx t f q] z fun u z' => ∃ A B, u = vTx t (.slice A t.flight.length t.flight.length) (.slice B t.queue.length t.queue.length) ∧ Sl pRep z' t.flight (.slice A t.flight.length t.flight.length) ∧ Sl pRep z' t.queue (.slice B t.queue.length t.queue.length) := by
  obtain ⟨A, k, cs, rfl, hk, he, hr⟩ := hf
  obtain ⟨B, k2, cs2, rfl, hk2, he2, hr2⟩ := hq
  (refine pspec_enter Tryz.func69 ic69_ok fr69_ok Tryz.ntmps69 ?_; simp only [seval, go_sem, ic69, fr69])
  refine gO ?_
  refine tT ?_; refine callP (copyparts_i t.flight _ z ⟨A, k, cs, rfl, hk, he, hr⟩ hl hp) rfl rfl ?_; rintro u z1 hz1 ⟨A2, rfl, hs⟩; refine gO ?_
  refine tT ?_; refine callP (copyparts_i t.queue _ z1 ⟨B, k2, cs2, rfl, hk2, he2.mono hz1, hr2.mono hz1⟩ hl2 hp2) rfl rfl ?_; rintro u z2 hz2 ⟨A3, rfl, hs3⟩; refine gO ?_
  (first|refine fN ?_|exact fZ)
  exact ⟨_, _, rfl, hs.mono hz2, hs3⟩
def TxV (z : Zc) (t : Tx) (v : Value) : Prop := ∃ A a B b, v = vTx t (.slice A t.flight.length a) (.slice B t.queue.length b) ∧ Sl pRep z t.flight (.slice A t.flight.length a) ∧ Sl pRep z t.queue (.slice B t.queue.length b)
theorem TxV.mono {z z' : Zc} {t : Tx} {v : Value} (hz : z ≤ z') (h : TxV z t v) : TxV z' t v := by
  obtain ⟨A, a, B, b, h1, h2, h3⟩ := h
  exact ⟨A, a, B, b, h1, h2.mono hz, h3.mono hz⟩
set_option maxHeartbeats 2000000

theorem rxok_i (r : Rx) (q : Value) (z : Zc) (hI : RxI r) (h : By z r.join.got q) : PSpec Tryz.prog 36 [vRx r q] z fun u z' => u = .bool true ∧ z = z' := by
  obtain ⟨A, k, rfl, hk, hB, hr⟩ := h.form
  have hj := hI.join.le
  have hjl : -1000000000 ≤ r.join.len := by rcases hI.join with h | h <;> omega
  have hcn := hI.count
  (refine pspec_enter Tryz.func36 ic36_ok fr36_ok Tryz.ntmps36 ?_; simp only [seval, go_sem, ic36, fr36])
  refine gO ?_
  refine tT ?_; refine callP (isnum r.expect z) rfl rfl ?_; rintro _ _ - ⟨rfl, rfl⟩; refine gO ?_
  simp only [isNum_iff.2 hI.expect]
  refine gO ?_
  refine tT ?_; refine callP (in_i r.count 0 9999 z) rfl rfl ?_; rintro _ _ - ⟨rfl, rfl⟩; refine gO ?_
  simp only [inB_iff.2 hcn]
  refine gO ?_
  refine tT ?_; refine callP (numof_i r.count z (by omega)) rfl rfl ?_; rintro _ _ - ⟨rfl, rfl⟩; refine gO ?_
  simp only [seval, go_sem, hI.num, beq_self_eq_true]
  refine gO ?_
  refine tT ?_; refine callP (joinok_i r.join A k z (by omega) hjl) rfl rfl ?_; rintro _ _ - ⟨rfl, rfl⟩; refine gO ?_
  simp only [joinOk_iff.2 hI.join]
  (first|refine fN ?_|exact fZ)
theorem rxcopy_i (r : Rx) (q : Value) (z : Zc) (h : By z r.join.got q) (hl : r.join.got.length ≤ 1000000000) : PSpec Tryz.prog 70 [vRx r q] z fun u z' => ∃ A, u = vRx r (.slice A r.join.got.length r.join.got.length) ∧ By z' r.join.got (.slice A r.join.got.length r.join.got.length) := by
  obtain ⟨A, k, rfl, hk, hB, hr⟩ := h.form
  (refine pspec_enter Tryz.func70 ic70_ok fr70_ok Tryz.ntmps70 ?_; simp only [seval, go_sem, ic70, fr70])
  refine gO ?_
  refine tT ?_; refine callP (cloneBy r.join.got _ z h hl) rfl rfl ?_; rintro u z1 hz1 ⟨A2, rfl, _, hs⟩; refine gO ?_
  (first|refine fN ?_|exact fZ)
  exact ⟨_, rfl, By.mk (Nat.le_refl _) hB hs⟩
set_option maxHeartbeats 1000000
theorem scloneByO (l : List Int) (A : Option Addr) (c : Nat) (z : Zc) (h : By z l (.slice A l.length c)) (hb : l.length ≤ 1000000000) :
    Spec Tryz.prog 59 [.slice A l.length c] z emp fun v z' A' => ∃ A2 c2, v = .slice A2 l.length c2 ∧ l.length ≤ c2 ∧ A' = bysA l A2 c2 := by
  obtain ⟨A', c', e, hc, hB, hr⟩ := h.form
  injection e with e1 _ e3
  subst e1; subst e3
  by_cases hn : l = []
  · subst hn
    have hbe : ∀ A c, bysA [] A c = starL [] := fun A c => by unfold bysA; rw [if_pos rfl]; rfl
    (refine spec_enter0 Tryz.func59 ic59_ok fr59_ok Tryz.ntmps59 ?_; simp only [seval, go_sem, ic59, fr59])
    refine gO ?_
    (with_reducible refine condI.split (fun hg => ?_) (fun hg => ?_) <;> (try simp only [hg]) <;> (try simp only [seval, go_sem]))
    · refine gO ?_
      refine FinV.tf (Tf.addE 90 rfl) ?_
      dsimp only
      (((try simp only [seval, go_sem]);repeat((with_reducible first|refine vJ ?_|refine vK ?_);try simp only [seval, go_sem])); refine FinV.own 90 rfl ?_; simp only [finE, finS, gt, look, SV.toV, SC.toV, allV, tupV, zq1, zq2, zq3, zq4, Nat.reduceAdd, Nat.reduceEqDiff, reduceCtorEq, if_true, if_false, reduceIte, Nat.succ_ne_self, true_and, zq5, zq7, zq8])
      exact ⟨none, 0, rfl, by omega, (hbe _ _).symm⟩
    · refine gO ?_
      refine aT ?_; (refine appM_zero atyB (by first | exact .inl ⟨_, _, _, Nat.le_refl _, rfl⟩ | exact .inr ⟨_, _, rfl⟩) rfl ?_); refine gO ?_
      (refine FinV.frz 0 rfl rfl (fun b z1 hz1 hr1 => ?_)); dsimp only at hz1; simp only [seval, go_sem, Go.Proofs.YtnkhjnieidlknaaGreat.frz, subV, subC, subE, subL]
      refine FinV.tf (Tf.addE 90 rfl) ?_
      dsimp only
      (((try simp only [seval, go_sem]);repeat((with_reducible first|refine vJ ?_|refine vK ?_);try simp only [seval, go_sem])); refine FinV.own 90 rfl ?_; simp only [finE, finS, gt, look, SV.toV, SC.toV, allV, tupV, zq1, zq2, zq3, zq4, Nat.reduceAdd, Nat.reduceEqDiff, reduceCtorEq, if_true, if_false, reduceIte, Nat.succ_ne_self, true_and, zq5, zq7, zq8])
      exact ⟨_, _, rfl, by simp, (hbe _ _).symm⟩
  · have hpos : 0 < l.length := List.length_pos_iff.2 hn
    have hbe : ∀ A c, bysA l A c = rowA tyB 1 (.slice A l.length c) l.length (bc l) := fun A c => by unfold bysA; rw [if_neg hn]
    (refine spec_enter0 Tryz.func59 ic59_ok fr59_ok Tryz.ntmps59 ?_; simp only [seval, go_sem, ic59, fr59])
    refine gO ?_
    (with_reducible refine condI.split (fun hg => ?_) (fun hg => ?_) <;> (try simp only [hg]) <;> (try simp only [seval, go_sem]))
    · exfalso
      cases A with
      | none => obtain ⟨b, o, e, _⟩ := hr (by rw [Ne, ← List.length_eq_zero_iff]; simp; exact hn); cases e
      | some a => simp at hg
    · refine gO ?_
      refine aT ?_; (refine appM_emptyO 90 atyB rfl (by first | exact .inl ⟨_, rfl⟩ | exact .inr ⟨_, _, rfl⟩) rfl (hr) (by first | omega | (simp <;> omega)) (bc_one _) (by omega) (by omega) (fun A2 c2 hc2 => ?_)); refine gO ?_
      (((try simp only [seval, go_sem]);repeat((with_reducible first|refine vJ ?_|refine vK ?_);try simp only [seval, go_sem])); refine FinV.own 90 rfl ?_; simp only [finE, finS, gt, look, SV.toV, SC.toV, allV, tupV, zq1, zq2, zq3, zq4, Nat.reduceAdd, Nat.reduceEqDiff, reduceCtorEq, if_true, if_false, reduceIte, Nat.succ_ne_self, true_and, zq5, zq7, zq8])
      exact ⟨A2, c2, rfl, hc2, (hbe _ _).symm⟩
theorem cloneByO (l : List Int) (v : Value) (z : Zc) (h : By z l v) (hb : l.length ≤ 1000000000) :
    Spec Tryz.prog 29 [v] z emp fun v' z' A' => ∃ A2, v' = .slice A2 l.length l.length ∧ A' = bysA l A2 l.length := by
  obtain ⟨A, c, rfl, hc, hB, hr⟩ := h.form
  (refine spec_enter0 Tryz.func29 ic29_ok fr29_ok Tryz.ntmps29 ?_; simp only [seval, go_sem, ic29, fr29])
  refine gO ?_
  refine tT ?_; refine callO 90 (scloneByO l A c z h hb) rfl rfl rfl ?_; rintro v z1 A' hz1 ⟨A2, c2, rfl, hc2, rfl⟩; refine gO ?_
  refine tT ?_; refine callP (sclipB A2 l.length c2 z1 hc2 hb) rfl rfl ?_; rintro v z2 hz2 rfl; refine gO ?_
  by_cases hn : l = []
  · subst hn
    (((try simp only [seval, go_sem]);repeat((with_reducible first|refine vJ ?_|refine vK ?_);try simp only [seval, go_sem])); refine FinV.own 90 rfl ?_; simp only [finE, finS, gt, look, SV.toV, SC.toV, allV, tupV, zq1, zq2, zq3, zq4, Nat.reduceAdd, Nat.reduceEqDiff, reduceCtorEq, if_true, if_false, reduceIte, Nat.succ_ne_self, true_and, zq5, zq7, zq8])
    exact ⟨_, rfl, by unfold bysA; rw [if_pos rfl, if_pos rfl]⟩
  · have hbe : ∀ A c, bysA l A c = rowA tyB 1 (.slice A l.length c) l.length (bc l) := fun A c => by unfold bysA; rw [if_neg hn]
    simp only [hbe]
    refine FinV.tf (Tf.cut 90 rfl rfl 0 l.length l.length (by omega) (by omega) (by omega) (by omega) (.inl rfl)) ?_
    (((try simp only [seval, go_sem]);repeat((with_reducible first|refine vJ ?_|refine vK ?_);try simp only [seval, go_sem])); refine FinV.own 90 rfl ?_; simp only [finE, finS, gt, look, SV.toV, SC.toV, allV, tupV, zq1, zq2, zq3, zq4, Nat.reduceAdd, Nat.reduceEqDiff, reduceCtorEq, if_true, if_false, reduceIte, Nat.succ_ne_self, true_and, zq5, zq7, zq8])
    exact ⟨_, rfl, by rw [List.take_of_length_le (by simp)]⟩
theorem crcPutO_i (l : List Int) (v : Value) (z : Zc) (h : By z l v) (hl : l.length ≤ 100000000) : Spec Tryz.prog 57 [v] z emp fun v z' A' => ∃ A, v = .slice A (crcPut l).length (crcPut l).length ∧ A' = bysA (crcPut l) A (crcPut l).length := by
  obtain ⟨A, c, rfl, hc, hB, hr⟩ := h.form
  have hlt := crcOf_lt hB
  (refine spec_enter0 Tryz.func57 ic57_ok fr57_ok Tryz.ntmps57 ?_; simp only [seval, go_sem, ic57, fr57])
  refine gO ?_
  refine tT ?_; refine callP (crcOf_i l _ z h (by omega)) rfl rfl ?_; rintro _ _ - ⟨rfl, rfl⟩; refine gO ?_
  refine tT ?_; refine callP (cloneBy l _ z h (by omega)) rfl rfl ?_; rintro v z1 hz1 ⟨A1, rfl, _, hr1⟩; refine gO ?_
  refine aT ?_; (refine appM_fullN 99 atyB rfl rfl hr1 (by first | omega | (simp <;> omega)) rfl rfl rfl rfl (by simp [Value.oneCell']) (by omega) (fun A2 c2 z2 hz2 hc2 hr2 => ?_)); dsimp only at hz2; refine gO ?_
  rw [crcPut_bi l hlt] at hr2
  have h2 : By z2 (crcPut l) (.slice A2 (l.length + 2) c2) := by rw [← crcPut_length]; exact By.mk (by rw [crcPut_length]; exact hc2) hB.crcPut hr2
  refine tT ?_; refine callO 90 (cloneByO (crcPut l) _ z2 h2 (by rw [crcPut_length]; omega)) rfl rfl rfl ?_; rintro v z3 A' hz3 ⟨A3, rfl, rfl⟩; refine gO ?_
  (((try simp only [seval, go_sem]);repeat((with_reducible first|refine vJ ?_|refine vK ?_);try simp only [seval, go_sem])); refine FinV.own 90 rfl ?_; simp only [finE, finS, gt, look, SV.toV, SC.toV, allV, tupV, zq1, zq2, zq3, zq4, Nat.reduceAdd, Nat.reduceEqDiff, reduceCtorEq, if_true, if_false, reduceIte, Nat.succ_ne_self, true_and, zq5, zq7, zq8])
  exact ⟨_, rfl, rfl⟩
theorem frmBytesO_i (f : Frm) (v : Value) (z : Zc) (h : By z f.data v) (hl : f.data.length ≤ 100000) (hf : frmOk f = true) : Spec Tryz.prog 31 [vFrm f v] z emp fun v z' A' => ∃ A, v = .slice A (frmBytes f).length (frmBytes f).length ∧ A' = bysA (frmBytes f) A (frmBytes f).length := by
  obtain ⟨A, c, rfl, hc, hB, hr⟩ := h.form
  have hfo := frmOk_i f _ z h (by omega)
  rw [hf] at hfo
  rw [frmBytes_ok hf]
  (refine spec_enter0 Tryz.func31 ic31_ok fr31_ok Tryz.ntmps31 ?_; simp only [seval, go_sem, ic31, fr31])
  refine gO ?_
  refine tT ?_; refine callP (hfo) rfl rfl ?_; rintro _ _ - ⟨rfl, rfl⟩; refine gO ?_
  refine tT ?_; refine callP (truth_i _ _) rfl rfl ?_; rintro _ _ - ⟨rfl, rfl⟩; refine gO ?_
  refine tT ?_; refine callP (truth_i _ _) rfl rfl ?_; rintro _ _ - ⟨rfl, rfl⟩; refine gO ?_
  (refine appT.toRow 90 1 (m := 5) (sz := 1) rfl rfl rfl (by omega) (fun b => ?_)); simp only [seval, go_sem, rowSt, subV, subC, subE, subL]
  refine aT ?_; (refine appM_row 90 atyB rfl rfl rfl rfl hr (by first | omega | simp) (bc_one _) (by omega) (fun v1 => ?_)); refine gO ?_
  (first | refine callT.frzR 90 rfl (fun A2 c2 z2 hv2 hc2 hz2 hr2 => ?_) | refine callM.frzR 90 rfl (fun A2 c2 z2 hv2 hc2 hz2 hr2 => ?_)); dsimp only at hz2; subst hv2; simp only [seval, go_sem]
  have h2 : By z2 (frmHead f ++ f.data) (.slice A2 (5 + f.data.length) c2) := head_by hf hB hc2 (head_bc hf) hr2 rfl
  refine tT ?_; refine callO 91 (crcPutO_i _ _ z2 h2 (by simp [frmHead]; omega)) rfl rfl rfl ?_; rintro v z3 A' hz3 ⟨A3, rfl, rfl⟩; refine gO ?_
  (((try simp only [seval, go_sem]);repeat((with_reducible first|refine vJ ?_|refine vK ?_);try simp only [seval, go_sem])); refine FinV.own 91 rfl ?_; simp only [finE, finS, gt, look, SV.toV, SC.toV, allV, tupV, zq1, zq2, zq3, zq4, Nat.reduceAdd, Nat.reduceEqDiff, reduceCtorEq, if_true, if_false, reduceIte, Nat.succ_ne_self, true_and, zq5, zq7, zq8])
  exact ⟨_, rfl, rfl⟩
end Go.Proofs.YtnkhjnieidlknaaGreat
