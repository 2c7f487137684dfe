/- An end, written out. · Whatever happens: what the laws' walks share. -/
import Derived.Test.YtllafcmkppmdgaaGreatB12
import Derived.Test.YtllafcmkppmdgaaGreatB21
import Derived.Test.YtllafcmkppmdgaaGreatB13
import Derived.Test.YtllafcmkppmdgaaGreatB19
namespace Go.Proofs.YtllafcmkppmdgaaGreat
open Go.RowKit
set_option linter.unusedVariables false
set_option linter.unusedSimpArgs false
abbrev endL (e : End) (m : EndM) : List Value := [.int .i64 e.tx.next, .int .i64 e.tx.acked, .slice m.fA e.tx.flight.length m.fC, .int .i64 e.tx.sent, .slice m.qA e.tx.queue.length m.qC, .bool e.tx.asks, .int .i64 e.tx.tries, .bool e.tx.held, .int .i64 e.tx.count, .bool e.tx.dead,
 .int .i64 e.rx.expect, .int .i64 e.rx.count, .int .i64 e.rx.join.len, .slice m.jA e.rx.join.got.length m.jC, .bool e.rx.again, .bool e.rx.busy, .bool e.rx.dead,
 .int .i64 e.ctx.hav, .slice m.cA e.ctx.queue.length m.cC, .int .i64 e.ctx.granted, .int .i64 e.ctx.sent, .bool e.ctx.dead,
 .int .i64 e.crx.out, .int .i64 e.crx.join.len, .slice m.kA e.crx.join.got.length m.kC, .bool e.crx.dead, .slice m.pA e.put.length m.pC, .slice m.gA e.got.length m.gC]
theorem WldP.atE {z : Zc} {e0 e1 : End} {n0 n1 : List Msg} {m : WM} (h : WldP z e0 e1 n0 n1 m) : IsAt m.E := h.E.isAt (by rw [endsC_len]; omega)
theorem WldP.atN {z : Zc} {e0 e1 : End} {n0 n1 : List Msg} {m : WM} (h : WldP z e0 e1 n0 n1 m) : IsAt m.N := h.N.isAt (by simp)
theorem ends_sb {cs l1 l2 l3 : List Value} {o i : Nat} {u : Value} (e : cs = l1 ++ (l2 ++ l3)) (ho : l1.length = o) (h : l2[i]? = some u) : cs[o + i]? = some u := by
 subst e; subst ho
 have hi : i < l2.length := (List.getElem?_eq_some_iff.1 h).1
 rw [List.getElem?_append_right (by omega), Nat.add_sub_cancel_left, List.getElem?_append_left hi]
 exact h
theorem WldP.all0 {z : Zc} {e0 e1 : End} {n0 n1 : List Msg} {m : WM} (h : WldP z e0 e1 n0 n1 m) : RdAt z m.E 0 (endL e0 m.m0) := by
 have := h.E.sub 0 (endL e0 m.m0) (fun i u hu => ends_sb (l1 := (endsC e0 e1 m.m0 m.m1).take 0) (l3 := (endsC e0 e1 m.m0 m.m1).drop (0 + 28)) rfl rfl hu)
 exact this
theorem WldP.all1 {z : Zc} {e0 e1 : End} {n0 n1 : List Msg} {m : WM} (h : WldP z e0 e1 n0 n1 m) : RdAt z m.E 28 (endL e1 m.m1) := by
 have := h.E.sub 28 (endL e1 m.m1) (fun i u hu => ends_sb (l1 := (endsC e0 e1 m.m0 m.m1).take 28) (l3 := (endsC e0 e1 m.m0 m.m1).drop (28 + 28)) rfl rfl hu)
 exact this
set_option maxRecDepth 100000
set_option maxHeartbeats 8000000
structure LawW (z0 : Zc) (c : Cfg) (n : Nat) (s : RunS) : Prop where
 z : z0 ≤ s.z
 i : s.i ≤ n
 P : WldP s.z s.e0 s.e1 s.n0 s.n1 s.m
 I : WldW ⟨c, [s.e0, s.e1], [s.n0, s.n1], s.link⟩
theorem WldP.tx0 {z : Zc} {e0 e1 : End} {n0 n1 : List Msg} {m : WM} (h : WldP z e0 e1 n0 n1 m) : RdAt z m.E 0 (txL e0 m.m0) := by
 have := h.E.sub 0 (txL e0 m.m0) (fun i u hu => ends_sub (l1 := (endsC e0 e1 m.m0 m.m1).take 0) (l3 := (endsC e0 e1 m.m0 m.m1).drop (0 + 10)) rfl rfl hu)
 exact this
theorem WldP.tx1 {z : Zc} {e0 e1 : End} {n0 n1 : List Msg} {m : WM} (h : WldP z e0 e1 n0 n1 m) : RdAt z m.E 28 (txL e1 m.m1) := by
 have := h.E.sub 28 (txL e1 m.m1) (fun i u hu => ends_sub (l1 := (endsC e0 e1 m.m0 m.m1).take 28) (l3 := (endsC e0 e1 m.m0 m.m1).drop (28 + 10)) rfl rfl hu)
 exact this
theorem WldP.rx0 {z : Zc} {e0 e1 : End} {n0 n1 : List Msg} {m : WM} (h : WldP z e0 e1 n0 n1 m) : RdAt z m.E 10 (rxL e0 m.m0) := by
 have := h.E.sub 10 (rxL e0 m.m0) (fun i u hu => ends_sub (l1 := (endsC e0 e1 m.m0 m.m1).take 10) (l3 := (endsC e0 e1 m.m0 m.m1).drop (10 + 7)) rfl rfl hu)
 exact this
theorem WldP.ctx0 {z : Zc} {e0 e1 : End} {n0 n1 : List Msg} {m : WM} (h : WldP z e0 e1 n0 n1 m) : RdAt z m.E 17 (ctxL e0 m.m0) := by
 have := h.E.sub 17 (ctxL e0 m.m0) (fun i u hu => ends_sub (l1 := (endsC e0 e1 m.m0 m.m1).take 17) (l3 := (endsC e0 e1 m.m0 m.m1).drop (17 + 5)) rfl rfl hu)
 exact this
theorem WldP.ctx1 {z : Zc} {e0 e1 : End} {n0 n1 : List Msg} {m : WM} (h : WldP z e0 e1 n0 n1 m) : RdAt z m.E 45 (ctxL e1 m.m1) := by
 have := h.E.sub 45 (ctxL e1 m.m1) (fun i u hu => ends_sub (l1 := (endsC e0 e1 m.m0 m.m1).take 45) (l3 := (endsC e0 e1 m.m0 m.m1).drop (45 + 5)) rfl rfl hu)
 exact this
theorem WldP.crx0 {z : Zc} {e0 e1 : End} {n0 n1 : List Msg} {m : WM} (h : WldP z e0 e1 n0 n1 m) : RdAt z m.E 22 (crxL e0 m.m0) := by
 have := h.E.sub 22 (crxL e0 m.m0) (fun i u hu => ends_sub (l1 := (endsC e0 e1 m.m0 m.m1).take 22) (l3 := (endsC e0 e1 m.m0 m.m1).drop (22 + 4)) rfl rfl hu)
 exact this
end Go.Proofs.YtllafcmkppmdgaaGreat
