/- The engine, fourth part: building, reading and writing. · The engine, fifth part: operations on a state. · The engine: a region that draws its order: what only reads is taken first, what makes memory in the orders that there are, what writes last. · The engine, sixth part: regions, code, calls. -/
import Derived.Test.YtllafcmkppmdgaaGreatB0
import Derived.OrdersHeld
import Derived.BigFrame
import Derived.Deep.Draws
import Derived.Deep.QuietTactic
import Derived.BigQuiet
import Derived.Deep.LoopGhost
namespace Go.Proofs.YtllafcmkppmdgaaGreat
open Go.RowKit
set_option linter.unusedVariables false
set_option linter.unusedSimpArgs false
/-! Filling. -/
def putV (cs : List Value) (o : Nat) (ds : List Value) : List Value := cs.take o ++ (ds ++ cs.drop (o + ds.length))
theorem putAt_den {ρ : Nm} {cs ds : List SC} {vs us : List Value} (h : DL (SC.den ρ) cs vs) (k : DL (SC.den ρ) ds us) (o : Nat) : DL (SC.den ρ) (putAt cs o ds) (putV vs o us) := by
 unfold putAt putV
 rw [k.length]
 exact (h.take o).append (k.append (h.drop _))
theorem fold_put (off : Nat) : ∀ (l : List Value) (k : Nat) (cells : Array Value), off + k + l.length ≤ cells.size →
  ((l.zipIdx k).foldl (fun cs x => cs.setIfInBounds (off + x.2) x.1) cells).toList = cells.toList.take (off + k) ++ (l ++ cells.toList.drop (off + k + l.length))
 | [], k, cells, _ => by simp
 | v :: l, k, cells, h => by
  simp only [List.length_cons] at h
  rw [List.zipIdx_cons, List.foldl_cons, fold_put off l (k + 1) _ (by simp; omega)]
  simp only [Array.toList_setIfInBounds]
  have ho : off + k < cells.toList.length := by simp; omega
  rw [List.drop_set_of_lt (by omega)]
  have e1 : (cells.toList.set (off + k) v).take (off + (k + 1)) = cells.toList.take (off + k) ++ [v] := by
   rw [show off + (k + 1) = off + k + 1 by omega, List.take_add_one, List.take_set_of_le (by omega)]
   rw [List.getElem?_set_self (by simpa using ho)]; rfl
  rw [e1]
  simp only [List.append_assoc, List.cons_append, List.nil_append, List.length_cons]
  congr 4
  omega
theorem fill_put (off : Nat) (v : Value) (cells : Array Value) (h : off + v.cells.size ≤ cells.size) :
  (v.cells.zipIdx.foldl (fun cs x => cs.setIfInBounds (off + x.2) x.1) cells).toList = putV cells.toList off v.cells.toList := by
 have := fold_put off v.cells.toList 0 cells (by simpa using h)
 rw [← Array.foldl_toList, Array.toList_zipIdx, this]
 simp [putV]
theorem cellsOf_den {ρ : Nm} {sv : SV} {ds : List SC} {u : Value} (h : cellsOf sv = some ds) (hd : sv.den ρ u) (h1 : ds.all SC.one = true) : DL (SC.den ρ) ds u.cells.toList ∧ u.cells.all (·.oneCell') = true := by
 have hone : ∀ {x : SC} {v : Value}, x.den ρ v → SC.one x = true → v.oneCell' = true := fun {x v} hx ho => by
  cases x with
  | v y => rw [show v = y from hx]; exact ho
  | p k o => obtain ⟨b, _, rfl⟩ := hx; rfl
  | s k o n c => obtain ⟨b, _, rfl⟩ := hx; rfl
  | f A o => obtain ⟨b, o', _, rfl⟩ := hx; rfl
 cases sv with
 | any => cases h
 | t xs => cases h
 | c x =>
  injection h with h
  subst h
  have h1' : SC.one x = true := by simpa using h1
  have hv := hone hd h1'
  have hc : u.cells = #[u] := by cases u <;> first | rfl | (simp [Value.oneCell'] at hv)
  rw [hc]
  exact ⟨⟨hd, trivial⟩, by simp [hv]⟩
 | a xs =>
  injection h with h
  subst h
  obtain ⟨vs, hvs, rfl⟩ := hd
  refine ⟨by simpa [Value.cells] using hvs, ?_⟩
  simp only [Value.cells]
  rw [Array.all_eq_true_iff_forall_mem]
  intro v hv
  obtain ⟨i, hi⟩ := List.getElem?_of_mem (by simpa using hv)
  obtain ⟨x, hx, hxd⟩ := hvs.get' hi
  exact hone hxd (List.all_eq_true.1 h1 x (List.mem_of_getElem? hx))
section
variable {P : Program} {a : Act} {o : Oper} {ρ : Nm} {t : List SV}
theorem places_spec {fs : Array Field} : ∀ {parts : List (Nat × Operand)} {ps : List (Nat × Nat × Operand)}, placesOf P fs parts = some ps →
  ∀ {pl : Nat → Option (Nat × Nat)}, (∀ i f sz agg, fs[i]? = some f → szOf P f.type = some (sz, agg) → pl i = some (f.offset, sz)) →
  ∀ {cs : List SC} {K : List SC → Prop} (cells : Array Value), fillS t ps cs K → DL (SV.den ρ) t a.tmps.toList → DL (SC.den ρ) cs cells.toList →
  ∃ cs' cells', K cs' ∧ Instr.fill pl cells (parts.map fun x => (x.1, a.eval x.2)) = some cells' ∧ DL (SC.den ρ) cs' cells'.toList
 | [], ps, h, pl, hpl, cs, K, cells, hf, hd, hc => by
  injection h with h
  subst h
  exact ⟨cs, cells, hf, rfl, hc⟩
 | (i, x) :: r, ps, h, pl, hpl, cs, K, cells, hf, hd, hc => by
  unfold placesOf at h
  split at h
  ·rename_i f hfi
   split at h
   ·rename_i sz agg r' hsz hr
    injection h with h
    subst h
    unfold fillS at hf
    split at hf
    ·rename_i ds hds
     obtain ⟨⟨h1, h2, h3⟩, hf⟩ := hf
     obtain ⟨k1, k2⟩ := cellsOf_den hds (ev_den hd x) h1
     have hl : (a.eval x).cells.size = ds.length := by rw [k1.length]; simp
     have hcl : cells.size = cs.length := by rw [hc.length]; simp
     have hfit : f.offset + (a.eval x).cells.size ≤ cells.size := by omega
     obtain ⟨cs', cells', g1, g2, g3⟩ := places_spec hr hpl ((a.eval x).cells.zipIdx.foldl (fun cs x => cs.setIfInBounds (f.offset + x.2) x.1) cells) hf hd (by rw [fill_put _ _ _ hfit]; exact putAt_den hc k1 _)
     refine ⟨cs', cells', g1, ?_, g3⟩
     rw [List.map_cons]
     unfold Instr.fill
     rw [hpl i f sz agg hfi hsz]
     simp only
     rw [if_neg (by simp; omega)]
     exact g2
    ·exact hf.elim
   ·cases h
  ·cases h
theorem run_mapM {α β : Type} (g : α → Sem β) (h : α → β) : ∀ (l : List α) (w : World), (∀ x ∈ l, ∀ w, (g x).run P w = .ok (h x) w) → (l.mapM g).run P w = .ok (l.map h) w
 | [], w, _ => by simp
 | x :: l, w, hx => by
  rw [List.mapM_cons, Sem.run_bind, hx x (by simp)]
  simp only [Result.andThen_ok, Sem.run_bind, run_mapM g h l w (fun y hy => hx y (by simp [hy])), Sem.run_pure, List.map_cons]
theorem vcp_bld {ty : TypeId} {parts : Array (Nat × Operand)} {fs : Array Field} {z : List Value} {ps : List (Nat × Nat × Operand)} {K : SV → Prop} (ho : o.op = .build ty parts) (hs : fields P ty = some fs) (hz : zeroOf P ty = some z) (hall : fs.all (fun f => (szOf P f.type).isSome) = true) (hp : placesOf P fs parts.toList = some ps)
  (hv : vcp (.bld z ps) t K) (hd : DL (SV.den ρ) t a.tmps.toList) : ∃ sv v, K sv ∧ sv.den ρ v ∧ Run P a o v := by
 simp only [vcp] at hv
 obtain ⟨zv, hzr, rfl⟩ := zeroOf_spec hz
 let sz : Field → Nat := fun f => ((szOf P f.type).map (·.1)).getD 0
 have hmap : ∀ w, (fs.mapM fun (f : Field) => do pure (f.offset, ← sizeOf f.type)).run P w = .ok (fs.map fun f => (f.offset, sz f)) w := fun w => by
  rw [Array.mapM_eq_mapM_toList, Sem.run_map, run_mapM _ (fun f => (f.offset, sz f)) _ w]
  ·simp only [Result.andThen_ok]; rw [← Array.toList_map, Array.toArray_toList]
  ·intro f hf w
   have h1 := (Array.all_eq_true_iff_forall_mem.1 hall) f (by simpa using hf)
   obtain ⟨⟨n, agg⟩, h1⟩ := Option.isSome_iff_exists.1 h1
   simp [Sem.run_bind, (szOf_spec h1).1 w, sz, h1]
 obtain ⟨cs', cells', g1, g2, g3⟩ := places_spec (a := a) (ρ := ρ) hp (pl := fun i => (fs.map fun f => (f.offset, sz f))[i]?) (fun i f n agg hf hn => by simp [hf, sz, hn]) zv.cells hv hd (by simpa using den_vs ρ zv.cells.toList)
 refine ⟨_, _, g1, ⟨_, g3, rfl⟩, fun w => ?_⟩
 unfold execOp
 simp only [ho]
 refine run_v ?_
 unfold Instr.build
 have hl : (Array.map (fun x : Nat × Operand => (x.1, a.eval x.2)) parts).toList = parts.toList.map fun x => (x.1, a.eval x.2) := by simp
 simp only [Sem.run_bind, hzr w, Result.andThen_ok, run_underlying (fields_spec hs), hmap w, hl, g2, Sem.run_pure, Array.toArray_toList]
theorem fillB_spec {sz : Nat} : ∀ {parts : List (Nat × Operand)} {cs : List SC} {K : List SC → Prop} (cells : Array Value), fillB t sz parts cs K → DL (SV.den ρ) t a.tmps.toList → DL (SC.den ρ) cs cells.toList →
  ∃ cs' cells', K cs' ∧ Instr.fill (fun i => some (i * sz, sz)) cells (parts.map fun x => (x.1, a.eval x.2)) = some cells' ∧ DL (SC.den ρ) cs' cells'.toList
 | [], cs, K, cells, hf, hd, hc => ⟨cs, cells, hf, rfl, hc⟩
 | (i, x) :: r, cs, K, cells, hf, hd, hc => by
  unfold fillB at hf
  split at hf
  ·rename_i ds hds
   obtain ⟨⟨h1, h2, h3⟩, hf⟩ := hf
   obtain ⟨k1, k2⟩ := cellsOf_den hds (ev_den hd x) h1
   have hl : (a.eval x).cells.size = ds.length := by rw [k1.length]; simp
   have hcl : cells.size = cs.length := by rw [hc.length]; simp
   have hfit : i * sz + (a.eval x).cells.size ≤ cells.size := by omega
   obtain ⟨cs', cells', g1, g2, g3⟩ := fillB_spec ((a.eval x).cells.zipIdx.foldl (fun cs x => cs.setIfInBounds (i * sz + x.2) x.1) cells) hf hd (by rw [fill_put _ _ _ hfit]; exact putAt_den hc k1 _)
   refine ⟨cs', cells', g1, ?_, g3⟩
   rw [List.map_cons]
   unfold Instr.fill
   simp only
   rw [if_neg (by simp; omega)]
   exact g2
  ·exact hf.elim
theorem repl_vals (ρ : Nm) (z : List Value) (m : Nat) (hm : z.length = m) (h0 : 0 < m) : ∀ n, DL (SC.den ρ) (repl z n) ((List.range (n * m)).map fun i => z.toArray[i % m]!)
 | 0 => by simp [repl, DL]
 | n + 1 => by
  rw [show (n + 1) * m = m + n * m by rw [Nat.add_mul]; omega, List.range_add, List.map_append, List.map_map]
  refine DL.append ?_ ?_
  ·have : (List.range m).map (fun i => z.toArray[i % m]!) = z := by
    apply List.ext_getElem?
    intro i
    by_cases hi : i < m
    ·simp [hi, Nat.mod_eq_of_lt hi, hm]
    ·simp [List.getElem?_eq_none (show z.length ≤ i by omega), List.getElem?_eq_none (show ((List.range m).map (fun i => z.toArray[i % m]!)).length ≤ i by simp; omega)]; try omega
   rw [this]; exact den_vs ρ z
  ·have : ((fun i => z.toArray[i % m]!) ∘ fun x => m + x) = fun i => z.toArray[i % m]! := by
    funext i; simp
   rw [this]; exact repl_vals ρ z m hm h0 n
/-! Reading. -/
theorem run_loadAt {ty : TypeId} {sz : Nat} {agg : Bool} (h : szOf P ty = some (sz, agg)) {w : World} {b o : Nat} {vs : List Value} (hr : w.rangeAt b o vs) (hl : vs.length = sz) (v : Value) (hv : if agg then v = .agg vs.toArray else vs[0]? = some v) :
  (Instr.loadAt ty (.pointer (some ⟨b, o, none⟩))).run P w = .ok v w := by
 obtain ⟨h1, h2, h3, d, h4, h5⟩ := szOf_spec h
 cases agg with
 | true =>
  simp only [if_true] at hv
  rw [hv]
  exact run_loadAt_mid w b o ty vs d hr h4 h5 (by rw [h3, hl])
 | false =>
  simp only [Bool.false_eq_true, if_false] at hv
  have := hr 0 v hv
  simp only [Nat.add_zero] at this
  unfold Instr.loadAt Instr.sureAddr loadVar
  simp [Sem.run_bind, h2 w, this]
theorem rangeAt_row {w : World} {b : Nat} {vs : List Value} {e : TypeId} (h : w.heap[b]? = some (.cells vs.toArray e (0, 0))) (o n : Nat) : w.rangeAt b o ((vs.drop o).take n) := fun j v hv => by
 rw [cell_of_row _ _ _ _ _ _ h]
 have hj : j < n := by have := (List.getElem?_eq_some_iff.1 hv).1; simp at this; omega
 rw [List.getElem?_take_of_lt hj, List.getElem?_drop] at hv
 simpa using hv
theorem run_loadAt_one {ty : TypeId} {sz : Nat} (h : szOf P ty = some (sz, false)) {w : World} {b o : Nat} {v : Value} (hc : w.cell? ⟨b, o, none⟩ = some v) : (Instr.loadAt ty (.pointer (some ⟨b, o, none⟩))).run P w = .ok v w := by
 unfold Instr.loadAt Instr.sureAddr loadVar
 simp [Sem.run_bind, (szOf_spec h).2.1 w, hc]
theorem rangeAt_same {w w' : World} {b o : Nat} {vs : List Value} (h : w.rangeAt b o vs) (e : w'.heap[b]? = w.heap[b]?) : w'.rangeAt b o vs := fun j v hv => (cell_same e).trans (h j v hv)
theorem vcl_spec {C : Ctx} {L : Ents} {z : Zc} {w : World} {ty : TypeId} {x : Operand} {sz : Nat} {agg : Bool} {t : List SV} {K : SV → Prop} {R : Option Addr → Nat → List Value → Prop} {G : Nat → Prop} (hR : ∀ A o vs, vs ≠ [] → R A o vs → ∃ b o', A = some ⟨b, o', none⟩ ∧ G b ∧ w.rangeAt b (o' + o) vs) (hv : vcl x (sz + 1) agg t L R K) (h : szOf P ty = some (sz + 1, agg)) (hd : DL (SV.den ρ) t a.tmps.toList) (hm : Mem C ρ z L w) :
  ∃ sv v b, K sv ∧ sv.den ρ v ∧ (G b ∨ ∃ k e cs, look k L = some (.cells e cs) ∧ ρ[k]? = some b) ∧ ∀ w', w'.heap[b]? = w.heap[b]? → (Instr.loadAt ty (a.eval x)).run P w' = .ok v w' := by
 unfold vcl at hv
 have hx := ev_den hd x
 split at hv
 ·rename_i k o he
  rw [he] at hx
  obtain ⟨b, hb, hxv⟩ := hx
  split at hv
  ·rename_i e cs hk
   obtain ⟨hle, hv⟩ := hv
   obtain ⟨b', vs, h1, h2, h3⟩ := hm.cells hk
   rw [hb] at h1
   injection h1 with h1
   subst h1
   have hlen := h2.length
   cases agg with
   | true =>
    refine ⟨_, .agg ((vs.drop o).take (sz + 1)).toArray, b, hv, ⟨_, (h2.drop o).take (sz + 1), rfl⟩, .inr ⟨k, e, cs, hk, hb⟩, fun w' e' => ?_⟩
    rw [hxv]
    exact run_loadAt h (rangeAt_same (rangeAt_row h3 o (sz + 1)) e') (by simp; omega) _ rfl
   | false =>
    simp only [Bool.false_eq_true, if_false] at hv
    split at hv
    ·rename_i y hy
     obtain ⟨u, hu, hden⟩ := h2.get hy
     refine ⟨_, u, b, hv, hden, .inr ⟨k, e, cs, hk, hb⟩, fun w' e' => ?_⟩
     rw [hxv]
     refine run_loadAt_one h ?_
     rw [cell_same e', cell_of_row _ _ _ _ _ _ h3]
     simpa using hu
    ·exact hv.elim
  ·exact hv.elim
 ·rename_i A o he
  rw [he] at hx
  obtain ⟨b, o', rfl, hxv⟩ := hx
  cases agg with
  | true =>
   simp only [if_true] at hv
   obtain ⟨vs, hl, hr, hk⟩ := hv
   obtain ⟨b1, o1, e, hz, hc⟩ := hR _ _ _ (by intro e; simp [e] at hl) hr
   injection e with e
   injection e with e1 e2 _
   subst e1; subst e2
   refine ⟨_, .agg vs.toArray, b, hk, ⟨vs, den_vs ρ vs, rfl⟩, .inl hz, fun w' e' => ?_⟩
   rw [hxv]
   exact run_loadAt h (rangeAt_same hc e') hl _ rfl
  | false =>
   simp only [Bool.false_eq_true, if_false] at hv
   obtain ⟨v, hr, hk⟩ := hv
   obtain ⟨b1, o1, e, hz, hc⟩ := hR _ _ _ (by simp) hr
   injection e with e
   injection e with e1 e2 _
   subst e1; subst e2
   refine ⟨_, v, b, hk, rfl, .inl hz, fun w' e' => ?_⟩
   rw [hxv]
   refine run_loadAt_one h ?_
   rw [cell_same e']
   have := hc 0 v rfl
   simpa using this
 ·exact hv.elim
end
section
variable {P : Program} {a : Act} {o : Oper} {ρ : Nm} {t : List SV} {K : SV → Prop}
theorem trCall_cases {c : Call} {i : IOp} (h : trCall P c = i) : (∃ x ty, i = .len x ∧ c.callee = .builtin .len ∧ c.args.toList = [x] ∧ c.argTypes.toList = [ty] ∧ (isSlice P ty).isSome = true) ∨ (∃ x y, i = .mn x y ∧ c.callee = .builtin .min ∧ c.args.toList = [x, y]) ∨ (∃ x y, i = .mx x y ∧ c.callee = .builtin .max ∧ c.args.toList = [x, y]) ∨
  (∃ s x ty, i = .app ty s x ∧ c.callee = .builtin .append ∧ c.args.toList = [s, x] ∧ c.argTypes.toList = [ty, ty]) ∨ (∃ f fn, i = .call f c.args.toList ∧ c.callee = .value (.func f) ∧ P.funcs[f]? = some fn ∧ fn.body.isSome = true ∧ (fn.name == "runtime.NumGoroutine") = false) ∨ i = .oth (.call c) := by
 unfold trCall at h
 split at h
 ·rename_i hc
  split at h
  ·rename_i x ty hx hty
   split at h
   ·rename_i hs; exact .inl ⟨x, ty, h.symm, hc, hx, hty, hs⟩
   ·simp [h.symm]
  ·simp [h.symm]
 ·rename_i hc
  split at h
  ·rename_i x y hx; exact .inr (.inl ⟨x, y, h.symm, hc, hx⟩)
  ·simp [h.symm]
 ·rename_i hc
  split at h
  ·rename_i x y hx; exact .inr (.inr (.inl ⟨x, y, h.symm, hc, hx⟩))
  ·simp [h.symm]
 ·rename_i hc
  split at h
  ·rename_i s x ty ty' hx hty
   split at h
   ·rename_i he
    have he : ty = ty' := by simpa using he
    subst he
    exact .inr (.inr (.inr (.inl ⟨s, x, ty, h.symm, hc, hx, hty⟩)))
   ·simp [h.symm]
  ·simp [h.symm]
 ·rename_i f hc
  split at h
  ·rename_i fn hf
   split at h
   ·rename_i hb
    simp only [Bool.and_eq_true, Bool.not_eq_true'] at hb
    exact .inr (.inr (.inr (.inr (.inl ⟨f, fn, h.symm, hc, hf, hb.1, hb.2⟩))))
   ·simp [h.symm]
  ·simp [h.symm]
 ·simp [h.symm]
theorem vcp_sound {i : IOp} (h : tr P o.op = i) (hv : vcp i t K) (hd : DL (SV.den ρ) t a.tmps.toList) : ∃ sv v, K sv ∧ sv.den ρ v ∧ Run P a o v := by
 cases hop : o.op with
 | move x => rw [hop] at h; subst h; exact vcp_mv (.inl hop) hv hd
 | assign x => rw [hop] at h; subst h; exact vcp_mv (.inr hop) hv hd
 | pick c x y => rw [hop] at h; subst h; exact vcp_pick hop hv hd
 | extract x j => rw [hop] at h; subst h; exact vcp_ext hop hv hd
 | nilCheck x => rw [hop] at h; subst h; exact vcp_nil hop hv hd
 | field s x j =>
  rw [hop] at h; simp only [tr] at h
  split at h
  ·rename_i fs hfs
   split at h
   ·rename_i f hf
    split at h
    ·rename_i sz agg hsz; subst h; exact vcp_fld hop hfs hf hsz hv hd
    ·subst h; exact hv.elim
   ·subst h; exact hv.elim
  ·subst h; exact hv.elim
 | fieldAddr s x j =>
  rw [hop] at h; simp only [tr] at h
  split at h
  ·rename_i fs hfs
   split at h
   ·rename_i f hf
    split at h
    ·rename_i sz agg hsz; subst h; exact vcp_fad hop hfs hf hsz hv hd
    ·subst h; exact hv.elim
   ·subst h; exact hv.elim
  ·subst h; exact hv.elim
 | indexAddr s x j =>
  rw [hop] at h; simp only [tr] at h
  split at h
  ·rename_i e he
   split at h
   ·rename_i sz agg hsz; subst h; exact vcp_iad hop he hsz hv hd
   ·subst h; exact hv.elim
  ·subst h; exact hv.elim
 | slice s x lo hi mx =>
  rw [hop] at h
  cases mx with
  | some m =>
   cases hi with
   | none => simp only [tr] at h; subst h; exact hv.elim
   | some hi =>
    simp only [tr] at h
    split at h
    ·rename_i e he
     split at h
     ·rename_i sz agg hsz; subst h; exact vcp_sl3 hop he hsz hv hd
     ·subst h; exact hv.elim
    ·subst h; exact hv.elim
  | none =>
   simp only [tr] at h
   split at h
   ·rename_i e he
    split at h
    ·rename_i sz agg hsz; subst h; exact vcp_slc hop he hsz hv hd
    ·subst h; exact hv.elim
   ·subst h; exact hv.elim
 | binOp op ty x y ty' =>
  rw [hop] at h; simp only [tr] at h
  split at h
  ·split at h
   ·subst h; exact vcp_bin hop hv hd
   ·subst h; exact hv.elim
  ·split at h
   ·rename_i hb
    split at h
    ·subst h; exact vcp_eqb (neg := false) hop hb hv hd
    ·subst h; exact vcp_eqb (neg := true) hop hb hv hd
    ·subst h; exact hv.elim
   ·split at h
    ·rename_i hb
     simp only [Bool.and_eq_true] at hb
     obtain ⟨e, he⟩ := Option.isSome_iff_exists.1 hb.1
     split at h
     ·subst h; exact vcp_isn (neg := false) hop he hb.2 hv hd
     ·subst h; exact vcp_isn (neg := true) hop he hb.2 hv hd
     ·subst h; exact hv.elim
    ·subst h; exact hv.elim
 | unOp op ty x =>
  rw [hop] at h
  cases op <;> simp only [tr] at h <;> subst h <;> first | exact vcp_not hop hv hd | exact hv.elim
 | convert s d x =>
  rw [hop] at h; simp only [tr] at h
  split at h
  ·rename_i k' k hs hk; subst h; exact vcp_cvi hop hs hk hv hd
  ·subst h; exact hv.elim
 | build ty parts =>
  rw [hop] at h; simp only [tr] at h
  split at h
  ·rename_i fs z hfs hz
   split at h
   ·rename_i ps hps
    split at h
    ·rename_i hall; subst h; exact vcp_bld hop hfs hz hall hps hv hd
    ·subst h; exact hv.elim
   ·subst h; exact hv.elim
  ·subst h; exact hv.elim
 | load ty x => rw [hop] at h; simp only [tr] at h; split at h <;> subst h <;> exact hv.elim
 | alloc ty => rw [hop] at h; simp only [tr] at h; split at h <;> subst h <;> exact hv.elim
 | box ty x => rw [hop] at h; subst h; exact hv.elim
 | buildSlice ty n ps =>
  rw [hop] at h; simp only [tr] at h
  split at h
  ·split at h
   ·split at h <;> subst h <;> exact hv.elim
   ·subst h; exact hv.elim
  ·subst h; exact hv.elim
 | store ty x y => rw [hop] at h; simp only [tr] at h; split at h <;> subst h <;> exact hv.elim
 | call c =>
  rw [hop] at h
  rcases trCall_cases (show trCall P c = i from h) with ⟨x, ty, rfl, h1, h2, h3, h4⟩ | ⟨x, y, rfl, h1, h2⟩ | ⟨x, y, rfl, h1, h2⟩ | ⟨_, _, _, rfl, _⟩ | ⟨_, _, rfl, _⟩ | rfl
  ·exact vcp_len hop h1 h2 h3 h4 hv hd
  ·exact vcp_mn hop h1 h2 hv hd
  ·exact vcp_mx hop h1 h2 hv hd
  ·exact hv.elim
  ·exact hv.elim
  ·exact hv.elim
 | _ => rw [hop] at h; simp only [tr] at h; subst h; exact hv.elim
end
/-! Steps from a state to the next. -/
def Cov (X : List Nat) (B : Nat → Prop) (ρ : Nm) (s : St) : Prop := ∀ b, B b → s.z.In b ∨ ∃ k e cs, look k s.L = some (.cells e cs) ∧ ρ[k]? = some b ∧ k ∉ X
structure Stp (ρ : Nm) (s : St) (w : World) (ρ' : Nm) (s' : St) (w' : World) : Prop where
 pre : ρ <+: ρ'
 zle : s.z ≤ s'.z
 keep : ∀ X B, Cov X B ρ s → (∀ b, B b → w'.heap[b]? = w.heap[b]?) ∧ Cov X B ρ' s'
structure StpX (X : List Nat) (ρ : Nm) (s : St) (w : World) (ρ' : Nm) (s' : St) (w' : World) : Prop where
 pre : ρ <+: ρ'
 zle : s.z ≤ s'.z
 keep : ∀ B, Cov X B ρ s → (∀ b, B b → w'.heap[b]? = w.heap[b]?) ∧ Cov X B ρ' s'
def opX (X : List Nat) (P : Program) (o : Oper) (s : St) (K : St → Prop) : Prop := ∀ C ρ a w Q, Sat C ρ s a w → o.wp P a w (fun a' w' => ∃ s' ρ', K s' ∧ Sat C ρ' s' a' w' ∧ StpX X ρ s w ρ' s' w') Q
def opM (P : Program) (o : Oper) (s : St) (K : St → Prop) : Prop := ∀ C ρ a w Q, Sat C ρ s a w → o.wp P a w (fun a' w' => ∃ s' ρ', K s' ∧ Sat C ρ' s' a' w' ∧ Stp ρ s w ρ' s' w') Q
def opT (P : Program) (o : Oper) (s : St) (K : St → Prop) : Prop := ∀ C ρ a w Q, Sat C ρ s a w → o.wp P a w (fun a' w' => ∃ s' ρ', K s' ∧ Sat C ρ' s' a' w' ∧ ρ <+: ρ' ∧ s.z ≤ s'.z) Q
theorem opM.toT {P : Program} {o : Oper} {s : St} {K : St → Prop} (h : opM P o s K) : opT P o s K := fun C ρ a w Q hs => Oper.wp_mono (fun a' w' ⟨s', ρ', h1, h2, h3⟩ => ⟨s', ρ', h1, h2, h3.pre, h3.zle⟩) (h C ρ a w Q hs)
theorem opM.toX {X : List Nat} {P : Program} {o : Oper} {s : St} {K : St → Prop} (h : opM P o s K) : opX X P o s K := fun C ρ a w Q hs => Oper.wp_mono (fun a' w' ⟨s', ρ', h1, h2, h3⟩ => ⟨s', ρ', h1, h2, h3.pre, h3.zle, h3.keep X⟩) (h C ρ a w Q hs)
theorem Stp.same {ρ : Nm} {s : St} {w : World} {t : List SV} : Stp ρ s w ρ ⟨t, s.L, s.z, s.n⟩ w := ⟨List.prefix_rfl, Zc.rfl' _, fun X B h => ⟨fun _ _ => rfl, h⟩⟩
theorem look_lt {C : Ctx} {ρ : Nm} {z : Zc} {L : Ents} {w : World} {k : Nat} {e : TypeId} {cs : List SC} (h : Mem C ρ z L w) (hk : look k L = some (.cells e cs)) : k < ρ.length := by
 obtain ⟨b, vs, h1, _⟩ := h.cells hk
 exact (List.getElem?_eq_some_iff.1 h1).1
theorem Cov.old {C : Ctx} {X : List Nat} {ρ : Nm} {s : St} {w : World} {B : Nat → Prop} (h : Cov X B ρ s) (hm : Mem C ρ s.z s.L w) {b : Nat} (hb : B b) : b < w.heap.size := by
 rcases h b hb with h | ⟨k, e, cs, h1, h2, _⟩
 ·obtain ⟨F, _, hw⟩ := hm; exact Nat.lt_of_lt_of_le h.2 hw.zsize
 ·obtain ⟨b', vs, k1, _, k3⟩ := hm.cells h1
  rw [h2] at k1; injection k1 with k1; subst k1; exact lt_of_heap k3
theorem Stp.alloc {C : Ctx} {ρ : Nm} {s : St} {w : World} {e : TypeId} {cs : List SC} {vs : List Value} {t : List SV} (hn : ρ.length = s.n) (hm : Mem C ρ s.z s.L w) :
  Stp ρ s w (ρ ++ [w.heap.size]) ⟨t, (s.n, .cells e cs) :: s.L, s.z, s.n + 1⟩ (w.alloc (.cells vs.toArray e)) := by
 refine ⟨List.prefix_append _ _, Zc.rfl' _, fun X B h => ⟨fun b hb => Below.heap_alloc _ _ _ (h.old hm hb), fun b hb => ?_⟩⟩
 rcases h b hb with h | ⟨k, e', cs', h1, h2, hX⟩
 ·exact .inl h
 ·refine .inr ⟨k, e', cs', ?_, pre_get (List.prefix_append _ _) h2, hX⟩
  have := look_lt hm h1
  show look k ((s.n, _) :: s.L) = _
  unfold look
  rw [if_neg (by omega)]; exact h1
section
variable {P : Program} {o : Oper} {s : St}
theorem Sat.alloc {C : Ctx} {ρ : Nm} {a : Act} {w : World} {e : TypeId} {cs : List SC} {vs : List Value} (h : Sat C ρ s a w) (hc : DL (SC.den ρ) cs vs) (d : Option Tmp) {sv : SV} {v : Value} (hv : sv.den (ρ ++ [w.heap.size]) v) :
  Sat C (ρ ++ [w.heap.size]) ⟨stO s.t d sv, (s.n, .cells e cs) :: s.L, s.z, s.n + 1⟩ (a.put d v) (w.alloc (.cells vs.toArray e)) :=
 ⟨by cases d <;> exact h.df, stO_den (h.fr.mono (fun _ _ => SV.den.ext (List.prefix_append _ _))) d hv, by simp [h.nm], h.nm ▸ h.mem.alloc hc⟩
theorem Sat.put {C : Ctx} {ρ : Nm} {a : Act} {w : World} (h : Sat C ρ s a w) (d : Option Tmp) {sv : SV} {v : Value} (hv : sv.den ρ v) : Sat C ρ ⟨stO s.t d sv, s.L, s.z, s.n⟩ (a.put d v) w :=
 ⟨by cases d <;> exact h.df, stO_den h.fr d hv, h.nm, h.mem⟩
theorem new_p {ρ : Nm} {n b : Nat} (h : ρ.length = n) : SV.den (ρ ++ [b]) (.c (.p n 0)) (.pointer (some ⟨b, 0, none⟩)) := ⟨b, by simp [← h], rfl⟩
theorem wp_value {a : Act} {w w' : World} {v : Value} {N : Act → World → Prop} {Q : Exit → Act → World → Prop} (h : (execOp a.eval o).run P w = .ok (.value v) w') (hn : N (a.put o.dst v) w') : o.wp P a w N Q := by
 unfold Oper.wp; rw [h]; exact hn
theorem wp_skip' {a : Act} {w w' : World} {N : Act → World → Prop} {Q : Exit → Act → World → Prop} (h : (execOp a.eval o).run P w = .ok .skip w') (hn : N (a.put o.dst undef) w') : o.wp P a w N Q := by
 unfold Oper.wp; rw [h]; exact hn
theorem opM_pure {K : St → Prop} (hv : vcp (tr P o.op) s.t fun v => K ⟨stO s.t o.dst v, s.L, s.z, s.n⟩) : opM P o s K := fun C ρ a w Q hs => by
 obtain ⟨sv, v, hk, hden, hrun⟩ := vcp_sound rfl hv hs.fr
 exact wp_value (hrun w) ⟨_, ρ, hk, hs.put o.dst hden, Stp.same⟩
theorem opM_ld {K : St → Prop} {ty : TypeId} {x : Operand} {sz : Nat} {agg : Bool} (ho : o.op = .load ty x) (h : szOf P ty = some (sz + 1, agg)) (hv : vcl x (sz + 1) agg s.t s.L (RdS s.z s.L) fun v => K ⟨stO s.t o.dst v, s.L, s.z, s.n⟩) : opM P o s K := fun C ρ a w Q hs => by
 obtain ⟨sv, v, b, hk, hden, _, hrun⟩ := vcl_spec (G := fun _ => True) (fun A o vs hn hr => (hs.mem.rdS hr hn).imp fun b h => h.imp fun o' h => ⟨h.1, trivial, h.2⟩) hv h hs.fr hs.mem
 refine wp_value ?_ ⟨_, ρ, hk, hs.put o.dst hden, Stp.same⟩
 unfold execOp
 simp only [ho]
 exact run_v (hrun w rfl)
theorem opM_alc {K : St → Prop} {ty : TypeId} {z : List Value} (ho : o.op = .alloc ty) (h : zeroOf P ty = some z) (hv : K ⟨stO s.t o.dst (.c (.p s.n 0)), (s.n, .cells ty (z.map .v)) :: s.L, s.z, s.n + 1⟩) : opM P o s K := fun C ρ a w Q hs => by
 obtain ⟨zv, hz, rfl⟩ := zeroOf_spec h
 refine wp_value (v := .pointer (some ⟨w.heap.size, 0, none⟩)) (w' := w.alloc (.cells zv.cells.toList.toArray ty)) ?_ ⟨_, _, hv, hs.alloc (den_vs ρ _) o.dst (new_p hs.nm), Stp.alloc hs.nm hs.mem⟩
 unfold execOp
 simp only [ho]
 refine run_v ?_
 simp [Instr.alloc, hz w, newVar, newRow]
theorem opM_box {K : St → Prop} {ty : TypeId} {x : Operand} {cs : List SC} (ho : o.op = .box ty x) (hc : cellsOf (ev s.t x) = some cs) (h1 : cs.all SC.one = true) (hv : K ⟨stO s.t o.dst (.c (.p s.n 0)), (s.n, .cells ty cs) :: s.L, s.z, s.n + 1⟩) : opM P o s K := fun C ρ a w Q hs => by
 obtain ⟨k1, k2⟩ := cellsOf_den hc (ev_den hs.fr x) h1
 refine wp_value (v := .pointer (some ⟨w.heap.size, 0, none⟩)) (w' := w.alloc (.cells (a.eval x).cells.toList.toArray ty)) ?_ ⟨_, _, hv, hs.alloc k1 o.dst (new_p hs.nm), Stp.alloc hs.nm hs.mem⟩
 unfold execOp
 simp only [ho]
 refine run_v ?_
 simp [Instr.box, newVar, newRow]
theorem opM_bsl {K : St → Prop} {ty e : TypeId} {sz len : Nat} {agg : Bool} {z : List Value} {ps : Array (Nat × Operand)} (ho : o.op = .buildSlice ty len ps) (hs : isSlice P ty = some e) (hz : szOf P e = some (sz, agg)) (hzz : zeroOf P e = some z) (hb : len * sz ≤ 1000) (hl : z.length = sz)
  (hv : fillB s.t sz ps.toList (repl z len) fun cs => K ⟨stO s.t o.dst (.c (.s s.n 0 len len)), (s.n, .cells e cs) :: s.L, s.z, s.n + 1⟩) : opM P o s K := fun C ρ a w Q hS => by
 obtain ⟨zv, hz0, rfl⟩ := zeroOf_spec hzz
 have hstart : ∃ cells : Array Value, (∀ w, (if len * sz = 0 then pure #[] else do pure (← zeroValue e).cells : Sem (Array Value)).run P w = .ok (if len * sz = 0 then #[] else zv.cells) w) ∧ ((Array.range (len * sz)).map ((if len * sz = 0 then #[] else zv.cells)[· % (if len * sz = 0 then #[] else zv.cells).size]!)) = cells ∧ DL (SC.den ρ) (repl zv.cells.toList len) cells.toList := by
  refine ⟨_, fun w => ?_, rfl, ?_⟩
  ·split
   ·rfl
   ·simp [hz0 w]
  ·by_cases h0 : len * sz = 0
   ·have : repl zv.cells.toList len = [] := by
     rcases Nat.mul_eq_zero.1 h0 with h | h
     ·subst h; rfl
     ·have : zv.cells.toList = [] := List.eq_nil_of_length_eq_zero (by omega)
      rw [this]
      clear hv hb h0 ho
      induction len with
      | zero => rfl
      | succ n ih => simp [repl, ih]
    rw [this, h0]; simp [DL]
   ·rw [if_neg h0]
    have hp : 0 < sz := Nat.pos_of_ne_zero (fun h => h0 (by rw [h, Nat.mul_zero]))
    have := repl_vals ρ zv.cells.toList sz hl hp len
    have hsz : zv.cells.size = sz := by simpa using hl
    simpa [hsz] using this
 obtain ⟨cells, c1, c2, c3⟩ := hstart
 obtain ⟨cs', cells', g1, g2, g3⟩ := fillB_spec cells hv hS.fr c3
 refine wp_value (v := .slice (some ⟨w.heap.size, 0, none⟩) len len) (w' := w.alloc (.cells cells'.toList.toArray e)) ?_ ⟨_, _, g1, hS.alloc g3 o.dst ⟨w.heap.size, by simp [← hS.nm], rfl⟩, Stp.alloc hS.nm hS.mem⟩
 unfold execOp
 simp only [ho]
 refine run_v ?_
 unfold Instr.buildSlice
 have hl' : (Array.map (fun x : Nat × Operand => (x.1, a.eval x.2)) ps).toList = ps.toList.map fun x => (x.1, a.eval x.2) := by simp
 simp only [Sem.run_bind, run_underlying (isSlice_spec hs), Result.andThen_ok, (szOf_spec hz).1 w, hl']
 rw [if_neg (by omega)]
 by_cases h0 : len * sz = 0
 ·rw [if_pos h0]
  simp only [if_pos h0] at c2
  simp only [Sem.run_bind, Sem.run_pure, Result.andThen_ok, c2, g2, newRow, run_newObj, Array.toArray_toList]
  rfl
 ·rw [if_neg h0]
  simp only [if_neg h0] at c2
  simp only [Sem.run_bind, hz0 w, Sem.run_pure, Result.andThen_ok, c2, g2, newRow, run_newObj, Array.toArray_toList]
  rfl
theorem run_storeAt {ty : TypeId} {sz : Nat} {agg : Bool} (h : szOf P ty = some (sz, agg)) {w : World} {b o : Nat} {cur : Array Value} {e : TypeId} (hg : w.heap[b]? = some (.cells cur e (0, 0))) {v : Value} (hl : v.cells.size = sz) (h1 : v.cells.all (·.oneCell') = true) (hfit : o + v.cells.size ≤ cur.size) :
  (Instr.storeAt ty (.pointer (some ⟨b, o, none⟩)) v).run P w = .ok () (w.setCells b o v.cells.toList) := by
 have hc : ∀ j, j < v.cells.toList.length → (w.cell? ⟨b, o + j, none⟩).isSome = true := fun j hj => by
  rw [cell_of_row _ _ _ _ _ _ hg]; simp at hj ⊢; omega
 have hf : ∀ j, j < v.cells.toList.length → w.frozen? ⟨b, o + j, none⟩ = false := fun j hj => by
  unfold World.frozen?; simp [hg]
 have := run_storeCells_cells (P := P) b o v.cells.toList 0 w (fun j hj => by simpa using hc j hj) (fun j hj => by simpa using hf j hj) (fun u hu => (Array.all_eq_true_iff_forall_mem.1 h1) u (by simpa using hu))
 simp only [Nat.add_zero] at this
 unfold Instr.storeAt Instr.sureAddr storeVar
 simp [Sem.run_bind, (szOf_spec h).1 w, hl, this]
theorem look_del {k j : Nat} (h : j ≠ k) : ∀ (L : Ents), look j (del k L) = look j L
 | [] => rfl
 | (i, e) :: L => by
  unfold del
  split
  ·rename_i hi
   show _ = if i = j then some e else look j L
   rw [if_neg (by omega)]
  ·unfold look
   split
   ·rfl
   ·exact look_del h L
theorem opT_sto {K : St → Prop} {ty : TypeId} {x y : Operand} {sz k off : Nat} {agg : Bool} {e : TypeId} {cs ds : List SC} (ho : o.op = .store ty x y) (h : szOf P ty = some (sz, agg)) (hx : ev s.t x = .c (.p k off)) (hk : look k s.L = some (.cells e cs)) (hd : cellsOf (ev s.t y) = some ds)
  (h1 : ds.all SC.one = true) (h2 : ds.length = sz) (h3 : off + ds.length ≤ cs.length) (hv : K ⟨stO s.t o.dst unS, (k, .cells e (putAt cs off ds)) :: del k s.L, s.z, s.n⟩) : opT P o s K := fun C ρ a w Q hs => by
 have hxd := ev_den hs.fr x
 rw [hx] at hxd
 obtain ⟨b, hb, hxv⟩ := hxd
 obtain ⟨k1, k2⟩ := cellsOf_den hd (ev_den hs.fr y) h1
 obtain ⟨b', vs, g1, g2, g3⟩ := hs.mem.cells hk
 rw [hb] at g1
 injection g1 with g1
 subst g1
 have hl : (a.eval y).cells.size = ds.length := by rw [k1.length]; simp
 have hfit : off + (a.eval y).cells.size ≤ vs.toArray.size := by have := g2.length; simp; omega
 obtain ⟨cur', c1, c2⟩ := setCells_heap b e (a.eval y).cells.toList off w vs.toArray g3 (by simpa using hfit)
 refine wp_skip' (w' := w.setCells b off (a.eval y).cells.toList) ?_ ⟨_, ρ, hv, ⟨by cases o.dst <;> exact hs.df, stO_den hs.fr o.dst rfl, hs.nm, ?_⟩, List.prefix_rfl, Zc.rfl' _⟩
 ·unfold execOp
  simp only [ho, hxv]
  simp [run_storeAt h g3 (by omega) k2 hfit]
 ·have hcur : cur' = (putV vs off (a.eval y).cells.toList).toArray := by
   apply Array.toList_inj.1
   rw [c2]; simp [putV]
  exact hs.mem.turn hk (putAt_den g2 k1 off) hb (by rw [c1, hcur]) (fun z hz => setCells_other b z hz _ _ _) (setCells_size _ _ _ _) (setCells_os _ _ _ _)
theorem opX_sto {X : List Nat} {K : St → Prop} {ty : TypeId} {x y : Operand} {sz k off : Nat} {agg : Bool} {e : TypeId} {cs ds : List SC} (ho : o.op = .store ty x y) (h : szOf P ty = some (sz, agg)) (hx : ev s.t x = .c (.p k off)) (hk : look k s.L = some (.cells e cs)) (hd : cellsOf (ev s.t y) = some ds)
  (h1 : ds.all SC.one = true) (h2 : ds.length = sz) (h3 : off + ds.length ≤ cs.length) (hv : K ⟨stO s.t o.dst unS, (k, .cells e (putAt cs off ds)) :: del k s.L, s.z, s.n⟩) (hX : k ∈ X) : opX X P o s K := fun C ρ a w Q hs => by
 have hxd := ev_den hs.fr x
 rw [hx] at hxd
 obtain ⟨b, hb, hxv⟩ := hxd
 obtain ⟨k1, k2⟩ := cellsOf_den hd (ev_den hs.fr y) h1
 obtain ⟨b', vs, g1, g2, g3⟩ := hs.mem.cells hk
 rw [hb] at g1
 injection g1 with g1
 subst g1
 have hl : (a.eval y).cells.size = ds.length := by rw [k1.length]; simp
 have hfit : off + (a.eval y).cells.size ≤ vs.toArray.size := by have := g2.length; simp; omega
 obtain ⟨cur', c1, c2⟩ := setCells_heap b e (a.eval y).cells.toList off w vs.toArray g3 (by simpa using hfit)
 refine wp_skip' (w' := w.setCells b off (a.eval y).cells.toList) ?_ ⟨_, ρ, hv, ⟨by cases o.dst <;> exact hs.df, stO_den hs.fr o.dst rfl, hs.nm, ?_⟩, List.prefix_rfl, Zc.rfl' _, fun B hB => ?_⟩
 ·unfold execOp
  simp only [ho, hxv]
  simp [run_storeAt h g3 (by omega) k2 hfit]
 ·have hcur : cur' = (putV vs off (a.eval y).cells.toList).toArray := by
   apply Array.toList_inj.1
   rw [c2]; simp [putV]
  exact hs.mem.turn hk (putAt_den g2 k1 off) hb (by rw [c1, hcur]) (fun z hz => setCells_other b z hz _ _ _) (setCells_size _ _ _ _) (setCells_os _ _ _ _)
 ·have hne : ∀ x, B x → x ≠ b := fun x hx e => by
   subst e
   obtain ⟨F, f1, f2⟩ := hs.mem
   obtain ⟨F1, F2, ⟨b1, us, q1, q2, q3, q4⟩, g2', gd, gF⟩ := f1.pick hk
   rw [hb] at q1; injection q1 with q1; subst q1
   rcases hB x hx with hz | ⟨j, e', cs', r1, r2, r3⟩
   ·exact f2.dis x ((gF x).2 (.inl ((q4 x).2 rfl))) hz
   ·have hjk : j ≠ k := fun e => r3 (e ▸ hX)
    obtain ⟨G1, G2, ⟨b2, us2, p1, p2, p3, p4⟩, _, _, pF⟩ := Holds.pick g2' (show look j (del k s.L) = some (.cells e' cs') by rw [look_del hjk]; exact r1)
    rw [r2] at p1; injection p1 with p1; subst p1
    exact gd x ((q4 x).2 rfl) ((pF x).2 (.inl ((p4 x).2 rfl)))
  refine ⟨fun x hx => setCells_other b x (hne x hx) _ _ _, fun x hx => ?_⟩
  rcases hB x hx with hz | ⟨j, e', cs', r1, r2, r3⟩
  ·exact .inl hz
  ·have hjk : j ≠ k := fun e => r3 (e ▸ hX)
   refine .inr ⟨j, e', cs', ?_, r2, r3⟩
   show (if k = j then _ else look j (del k s.L)) = _
   rw [if_neg (fun e => hjk e.symm), look_del hjk]; exact r1
end
section
variable {P : Program} {ops : Array Oper} {Q : Exit → Act → World → Prop} {md : Region.Mode} {S : World → Prop} {T : List Nat}
def Dc (md : Region.Mode) (ops : Array Oper) (listed : Array Bool) : Prop := ∀ j o e, ops[j]? = some o → listed.getD j false = true → e ∈ o.after → Region.binds md e = true → listed.getD e.on false = true
theorem Dc.set {listed : Array Bool} {j : Nat} (h : Dc md ops listed) (hj : j ∈ Region.ready md ops listed) : Dc md ops (listed.setIfInBounds j true) := by
 intro k o e ho hk he hb
 by_cases hkj : j = k
 ·subst hkj
  obtain ⟨_, o', ho', hall⟩ := mem_ready.1 hj
  rw [ho] at ho'; cases ho'
  exact getD_set_true (hall e he hb)
 ·rw [getD_set_ne false hkj] at hk
  exact getD_set_true (h k o e ho hk he hb)
def reach (md : Region.Mode) (ops : Array Oper) : Nat → Nat → Nat → Bool
 | 0, _, _ => false
 | k + 1, i, j => match ops[j]? with
  | some o => o.after.any fun e => Region.binds md e && (e.on == i || reach md ops k i e.on)
  | none => false
theorem reach_spec {listed : Array Bool} (h : Dc md ops listed) : ∀ k i j, reach md ops k i j = true → listed.getD j false = true → listed.getD i false = true := by
 intro k
 induction k with
 | zero => intro i j hr; cases hr
 | succ k ih =>
  intro i j hr hj
  unfold reach at hr
  split at hr
  ·rename_i o ho
   obtain ⟨e, he, hb⟩ := Array.any_eq_true'.1 hr
   simp only [Bool.and_eq_true, Bool.or_eq_true, beq_iff_eq] at hb
   have := h j o e ho hj he hb.1
   rcases hb.2 with hb2 | hb2
   ·rw [← hb2]; exact this
   ·exact ih i e.on hb2 this
  ·cases hr
def NoTail (T : List Nat) (listed : Array Bool) : Prop := ∀ j ∈ T, listed.getD j false = false
instance (T : List Nat) (listed : Array Bool) : Decidable (NoTail T listed) := inferInstanceAs (Decidable (∀ j ∈ T, listed.getD j false = false))
theorem getD_tf {listed : Array Bool} {i : Nat} (h : listed.getD i true = false) : listed.getD i false = false := by
 rcases Nat.lt_or_ge i listed.size with h' | h'
 ·simp [h'] at h ⊢; exact h
 ·simp [Array.getElem?_eq_none h'] at h
theorem noTail_of {listed : Array Bool} {i n : Nat} (h : Dc md ops listed) (hr : (T.all fun j => reach md ops n i j) = true) (hi : listed.getD i true = false) : NoTail T listed := by
 intro j hj
 cases hl : listed.getD j false with
 | false => rfl
 | true =>
  have := reach_spec h n i j (List.all_eq_true.1 hr j hj) hl
  rw [getD_tf hi] at this; cases this
def wpAnyS (P : Program) (md : Region.Mode) (ops : Array Oper) (Q : Exit → Act → World → Prop) (T : List Nat) (S : World → Prop) : Nat → Array Bool → Act → World → Prop
 | 0, listed, a, w => Region.ready md ops listed = [] ∧ Q .normal a w
 | fuel + 1, listed, a, w =>
  (Region.ready md ops listed = [] → Q .normal a w) ∧
  ∀ i ∈ Region.ready md ops listed, wpOp P ops Q i (fun a' w' => (NoTail T (listed.setIfInBounds i true) → S w') ∧ wpAnyS P md ops Q T S fuel (listed.setIfInBounds i true) a' w') a w
theorem wpAny_of_S : ∀ (fuel : Nat) (listed : Array Bool) (a : Act) (w : World), wpAnyS P md ops Q T S fuel listed a w → wpAny P md ops Q fuel listed a w
 | 0, _, _, _, h => h
 | fuel + 1, _, _, _, h => ⟨h.1, fun i hi => wpOp_mono (fun a' w' h' => wpAny_of_S fuel _ a' w' h'.2) (h.2 i hi)⟩
def Calm (Q : Exit → Act → World → Prop) : Prop := ∀ (d : Option Tmp) (v : Value) c a w, Q (.panic c) (a.put d v) w → Q (.panic c) a w
theorem noTail_set {listed : Array Bool} {i : Nat} (hiT : i ∉ T) : NoTail T (listed.setIfInBounds i true) ↔ NoTail T listed := by
 constructor
 ·intro h j hj
  have hne : i ≠ j := fun e => hiT (e ▸ hj)
  have := h j hj
  rwa [getD_set_ne false hne] at this
 ·intro h j hj
  have hne : i ≠ j := fun e => hiT (e ▸ hj)
  rw [getD_set_ne false hne]; exact h j hj
theorem wpAnyS_first {i n : Nat} {oi : Oper} {v : Value} (hi : ops[i]? = some oi) (hsel : ∀ (j : Nat) (o : Oper) cs b, ops[j]? = some o → o.op ≠ .select cs b)
  (hQ : Calm Q) (hiT : i ∉ T) (hreach : (T.all fun j => reach md ops n i j) = true) :
  ∀ (fuel : Nat) (listed : Array Bool) (a : Act) (w : World), Dc md ops listed →
   (∀ j oj, ops[j]? = some oj → j ≠ i → listed.getD j true = false → (∀ e ∈ oj.after, Region.binds md e = true → e.on ≠ i) → oi.apart ops oj = true) →
   i ∈ Region.ready md ops listed → YieldsIf P ops S oi v a → (NoTail T listed → S w) →
   wpAnyS P md ops Q T S fuel (listed.setIfInBounds i true) (a.put oi.dst v) w → wpAnyS P md ops Q T S (fuel + 1) listed a w := by
 intro fuel
 induction fuel with
 | zero =>
  intro listed a w hdc _ hr hy hS H
  have hSw := hS (noTail_of hdc hreach (mem_ready.1 hr).1)
  refine ⟨fun h => (by rw [h] at hr; cases hr), fun j hj => ?_⟩
  by_cases hji : j = i
  ·subst hji; exact hy.wpOp hi hSw ⟨fun _ => hSw, H⟩
  ·have := ready_mono hj hji
   rw [H.1] at this
   cases this
 | succ fuel ih =>
  intro listed a w hdc hfree hr hy hS H
  have hSw := hS (noTail_of hdc hreach (mem_ready.1 hr).1)
  refine ⟨fun h => (by rw [h] at hr; cases hr), fun j hj => ?_⟩
  by_cases hji : j = i
  ·subst hji; exact hy.wpOp hi hSw ⟨fun _ => hSw, H⟩
  ·have h1 := H.2 j (ready_mono hj hji)
   obtain ⟨hjun, oj, hoj, hall⟩ := mem_ready.1 hj
   have hnot : ∀ e ∈ oj.after, Region.binds md e = true → e.on ≠ i := fun e he hb heq => by
    have h1 := hall e he hb
    have h0 := (mem_ready.1 hr).1
    rw [heq] at h1
    rw [getD_tf h0] at h1; cases h1
   have h2 := wpOp_putIf hoj (hfree j oj hoj hji hjun hnot) (fun cs b => hsel i oi cs b hi) (fun cs b => hsel j oj cs b hoj) (fun c a w => hQ oi.dst v c a w) hy h1
   have hfree' : ∀ k ok, ops[k]? = some ok → k ≠ i → (listed.setIfInBounds j true).getD k true = false →
     (∀ e ∈ ok.after, Region.binds md e = true → e.on ≠ i) → oi.apart ops ok = true := fun k ok hk hki hun hno => by
    refine hfree k ok hk hki ?_ hno
    by_cases hjk : j = k
    ·subst hjk; exact hjun
    ·rw [getD_set_ne true hjk] at hun; exact hun
   refine wpOp_mono (fun a' w' h3 => ?_) h2
   have hkeep : NoTail T (listed.setIfInBounds j true) → S w' := fun hn => h3.2.1 (by rw [Array.setIfInBounds_comm _ _ (Ne.symm hji)]; exact (noTail_set hiT).2 hn)
   refine ⟨hkeep, ih (listed.setIfInBounds j true) a' w' (hdc.set hj) hfree' (ready_mono hr (Ne.symm hji)) h3.1 hkeep ?_⟩
   rw [Array.setIfInBounds_comm _ _ hji]
   exact h3.2.2
theorem wpAnyS_firstY {i : Nat} {oi : Oper} {v : Value} (hi : ops[i]? = some oi) (hsel : ∀ (j : Nat) (o : Oper) cs b, ops[j]? = some o → o.op ≠ .select cs b)
  (hQ : Calm Q) (hiT : i ∉ T) :
  ∀ (fuel : Nat) (listed : Array Bool) (a : Act) (w : World),
   (∀ j oj, ops[j]? = some oj → j ≠ i → listed.getD j true = false → (∀ e ∈ oj.after, Region.binds md e = true → e.on ≠ i) → oi.apart ops oj = true) →
   i ∈ Region.ready md ops listed → YieldsIf P ops (fun _ => True) oi v a → (NoTail T listed → S w) →
   wpAnyS P md ops Q T S fuel (listed.setIfInBounds i true) (a.put oi.dst v) w → wpAnyS P md ops Q T S (fuel + 1) listed a w := by
 intro fuel
 induction fuel with
 | zero =>
  intro listed a w _ hr hy hS H
  refine ⟨fun h => (by rw [h] at hr; cases hr), fun j hj => ?_⟩
  by_cases hji : j = i
  ·subst hji; exact hy.wpOp hi trivial ⟨fun hn => hS ((noTail_set hiT).1 hn), H⟩
  ·have := ready_mono hj hji
   rw [H.1] at this
   cases this
 | succ fuel ih =>
  intro listed a w hfree hr hy hS H
  refine ⟨fun h => (by rw [h] at hr; cases hr), fun j hj => ?_⟩
  by_cases hji : j = i
  ·subst hji; exact hy.wpOp hi trivial ⟨fun hn => hS ((noTail_set hiT).1 hn), H⟩
  ·have h1 := H.2 j (ready_mono hj hji)
   obtain ⟨hjun, oj, hoj, hall⟩ := mem_ready.1 hj
   have hnot : ∀ e ∈ oj.after, Region.binds md e = true → e.on ≠ i := fun e he hb heq => by
    have h1 := hall e he hb
    have h0 := (mem_ready.1 hr).1
    rw [heq] at h1
    rw [getD_tf h0] at h1; cases h1
   have h2 := wpOp_putIf hoj (hfree j oj hoj hji hjun hnot) (fun cs b => hsel i oi cs b hi) (fun cs b => hsel j oj cs b hoj) (fun c a w => hQ oi.dst v c a w) hy h1
   have hfree' : ∀ k ok, ops[k]? = some ok → k ≠ i → (listed.setIfInBounds j true).getD k true = false →
     (∀ e ∈ ok.after, Region.binds md e = true → e.on ≠ i) → oi.apart ops ok = true := fun k ok hk hki hun hno => by
    refine hfree k ok hk hki ?_ hno
    by_cases hjk : j = k
    ·subst hjk; exact hjun
    ·rw [getD_set_ne true hjk] at hun; exact hun
   refine wpOp_mono (fun a' w' h3 => ?_) h2
   have hkeep : NoTail T (listed.setIfInBounds j true) → S w' := fun hn => h3.2.1 (by rw [Array.setIfInBounds_comm _ _ (Ne.symm hji)]; exact (noTail_set hiT).2 hn)
   refine ⟨hkeep, ih (listed.setIfInBounds j true) a' w' hfree' (ready_mono hr (Ne.symm hji)) h3.1 hkeep ?_⟩
   rw [Array.setIfInBounds_comm _ _ hji]
   exact h3.2.2
def Sb (S : World → Prop) : Bool → World → Prop
 | true => S
 | false => fun _ => True
def SegY (P : Program) (ops : Array Oper) (S : World → Prop) : List (Nat × Bool) → Act → Act → Prop
 | [], a, A => A = a
 | (i, b) :: l, a, A => match ops[i]? with
  | some o => ∃ v, YieldsIf P ops (Sb S b) o v a ∧ SegY P ops S l (a.put o.dst v) A
  | none => False
theorem SegY.nil {a : Act} : SegY P ops S [] a a := rfl
def RegK (S : Prop → World → Prop) (N : Prop) (R : Act → World → Prop) (Q : Exit → Act → World → Prop) : Exit → Act → World → Prop
 | .normal, a, w => S N w ∧ R a w
 | e, a, w => Q e a w
def IfS (S : World → Prop) (N : Prop) (w : World) : Prop := N → S w
theorem RegK.to {N : Prop} {R : Act → World → Prop} {a : Act} {w : World} (hS : N → S w) (h : (N → S w) → R a w) : RegK (IfS S) N R Q .normal a w := ⟨hS, h hS⟩
theorem wp_regK {N : Prop} {o : Oper} {a : Act} {w : World} {R : Act → World → Prop} (h : o.wp P a w (wpList P ops (RegK (IfS S) N R Q) []) (RegK (IfS S) N R Q)) : o.wp P a w (fun a' w' => (N → S w') ∧ R a' w') Q := by
 unfold Oper.wp at *
 generalize (execOp a.eval o).run P w = r at *
 cases r with
 | ok n w' =>
  cases n <;> simp only [Oper.upon] at h ⊢ <;> first
   | exact h
   | (refine Calls.mono h fun e w'' he => ?_; cases e <;> first | exact he | (obtain ⟨a0, w0, h0⟩ := he; exact ⟨a0, w0, h0⟩))
 | halt x w' => cases x <;> simp only [Oper.upon] at h ⊢ <;> exact h
theorem wpOp_one {N : Prop} {i : Nat} {o : Oper} {a : Act} {w : World} {R : Act → World → Prop} (ho : ops[i]? = some o) (h : wpList P ops (RegK (IfS S) N R Q) [o] a w) : wpOp P ops Q i (fun a' w' => (N → S w') ∧ R a' w') a w := by
 unfold wpOp
 simp only [ho]
 simp only [wpList] at h
 split
 ·rename_i hw
  rw [if_pos hw] at h
  rcases h with h | ⟨h1, a0, w0, h0⟩
  ·exact .inl (wp_regK (ops := ops) h)
  ·exact .inr ⟨h1, a0, w0, h0⟩
 ·rename_i hw
  rw [if_neg hw] at h
  exact h
def NextL (P : Program) (ops : Array Oper) (Q : Exit → Act → World → Prop) (i : Nat) (a : Act) (w : World) : Prop := match ops[i]? with
 | some o => wpList P ops Q [o] a w
 | none => False
theorem wpAnyS_mem {i : Nat} {fuel : Nat} {listed' : Array Bool} (n : Nat) {listed : Array Bool} {a : Act} {w : World} (hn : n = fuel + 1) (hl : listed.setIfInBounds i true = listed') (hr : Region.ready md ops listed = [i]) (hd : Dc md ops listed)
  (h : Dc md ops listed' → NextL P ops (RegK (IfS S) (NoTail T listed') (wpAnyS P md ops Q T S fuel listed') Q) i a w) : wpAnyS P md ops Q T S n listed a w := by
 subst hn
 subst hl
 refine ⟨fun h0 => (by rw [h0] at hr; cases hr), fun j hj => ?_⟩
 have hi : i ∈ Region.ready md ops listed := by rw [hr]; exact List.mem_singleton.2 rfl
 have h' := h (hd.set hi)
 rw [hr] at hj
 rw [List.mem_singleton.mp hj]
 unfold NextL at h'
 split at h'
 ·rename_i o ho; exact wpOp_one ho h'
 ·exact h'.elim
theorem wpAnyS_mem2 {i j : Nat} {fuel : Nat} {li lj : Array Bool} (n : Nat) {listed : Array Bool} {a : Act} {w : World} (hn : n = fuel + 1) (hli : listed.setIfInBounds i true = li) (hlj : listed.setIfInBounds j true = lj) (hr : Region.ready md ops listed = [i, j]) (hd : Dc md ops listed)
  (h : Dc md ops li → NextL P ops (RegK (IfS S) (NoTail T li) (wpAnyS P md ops Q T S fuel li) Q) i a w)
  (h' : Dc md ops lj → NextL P ops (RegK (IfS S) (NoTail T lj) (wpAnyS P md ops Q T S fuel lj) Q) j a w) : wpAnyS P md ops Q T S n listed a w := by
 subst hn
 subst hli
 subst hlj
 have hi : i ∈ Region.ready md ops listed := by rw [hr]; simp
 have hj : j ∈ Region.ready md ops listed := by rw [hr]; simp
 have k := h (hd.set hi)
 have k' := h' (hd.set hj)
 refine ⟨fun h0 => (by rw [h0] at hr; cases hr), fun x hx => ?_⟩
 rw [hr] at hx
 simp only [List.mem_cons, List.not_mem_nil, or_false] at hx
 rcases hx with rfl | rfl
 ·unfold NextL at k
  split at k
  ·rename_i o ho; exact wpOp_one ho k
  ·exact k.elim
 ·unfold NextL at k'
  split at k'
  ·rename_i o ho; exact wpOp_one ho k'
  ·exact k'.elim
theorem wpAnyS_mem3 {i j k : Nat} {fuel : Nat} {li lj lk : Array Bool} (n : Nat) {listed : Array Bool} {a : Act} {w : World} (hn : n = fuel + 1) (hli : listed.setIfInBounds i true = li) (hlj : listed.setIfInBounds j true = lj) (hlk : listed.setIfInBounds k true = lk) (hr : Region.ready md ops listed = [i, j, k]) (hd : Dc md ops listed)
  (h : Dc md ops li → NextL P ops (RegK (IfS S) (NoTail T li) (wpAnyS P md ops Q T S fuel li) Q) i a w)
  (h' : Dc md ops lj → NextL P ops (RegK (IfS S) (NoTail T lj) (wpAnyS P md ops Q T S fuel lj) Q) j a w)
  (h'' : Dc md ops lk → NextL P ops (RegK (IfS S) (NoTail T lk) (wpAnyS P md ops Q T S fuel lk) Q) k a w) : wpAnyS P md ops Q T S n listed a w := by
 subst hn
 subst hli
 subst hlj
 subst hlk
 have hi : i ∈ Region.ready md ops listed := by rw [hr]; simp
 have hj : j ∈ Region.ready md ops listed := by rw [hr]; simp
 have hk : k ∈ Region.ready md ops listed := by rw [hr]; simp
 have k1 := h (hd.set hi)
 have k2 := h' (hd.set hj)
 have k3 := h'' (hd.set hk)
 refine ⟨fun h0 => (by rw [h0] at hr; cases hr), fun x hx => ?_⟩
 rw [hr] at hx
 simp only [List.mem_cons, List.not_mem_nil, or_false] at hx
 rcases hx with rfl | rfl | rfl
 ·unfold NextL at k1
  split at k1
  ·rename_i o ho; exact wpOp_one ho k1
  ·exact k1.elim
 ·unfold NextL at k2
  split at k2
  ·rename_i o ho; exact wpOp_one ho k2
  ·exact k2.elim
 ·unfold NextL at k3
  split at k3
  ·rename_i o ho; exact wpOp_one ho k3
  ·exact k3.elim
theorem wpAnyS_end {listed : Array Bool} {a : Act} {w : World} (n : Nat) (hr : Region.ready md ops listed = []) (h : Q .normal a w) : wpAnyS P md ops Q T S n listed a w := by
 cases n with
 | zero => exact ⟨hr, h⟩
 | succ n => exact ⟨fun _ => h, by rw [hr]; simp⟩
theorem dc_start (n : Nat) : Dc md ops (Array.replicate n false) := by
 intro j o e _ hj
 simp [Array.getElem?_replicate] at hj
 split at hj <;> simp at hj
theorem wp_regionS {id : Nat} {a : Act} {w : World} (T : List Nat) (hm : P.follows .mixedOrders = true) (hS : S w.drew)
  (h : Dc .any ops (Array.replicate ops.size false) → (NoTail T (Array.replicate ops.size false) → S w.drew) → wpAnyS P .any ops Q T S ops.size (Array.replicate ops.size false) a w.drew) : (Code.region id ops true).wp P Q a w :=
 wp_region_any hm (wpAny_of_S _ _ _ _ (h (dc_start _) (fun _ => hS)))
end
/-! Regions. -/
inductive Plan where
 | done
 | pure (i : Nat) (ld : Bool) (r : Plan)
 | mem (i : Nat) (r : Plan)
 | alt (i j : Nat) (ri rj : Plan)
 | alt3 (i j k : Nat) (ri rj rk : Plan)
inductive Kd where
 | p | l | m | t
inductive IReg where
 | done
 | op (kd : Kd) (i : IOp) (d : Option Nat) (g : Option (Nat × Bool)) (r : IReg)
 | alt (a b : IReg)
def gOf (ops : Array Oper) (o : Oper) : Option (Option (Nat × Bool)) := match o.guard with
 | none => some none
 | some (j, b) => match (ops[j]?).bind (·.dst) with
  | some t => some (some (t, b))
  | none => none
def trReg (P : Program) (ops : Array Oper) (T : List Nat) : Plan → Nat → Array Bool → Option IReg
 | .done, _, listed => if (Region.ready .any ops listed).isEmpty then some .done else none
 | .pure i ld r, n + 1, listed => match ops[i]? with
  | some o => match gOf ops o with
   | some g => if (Region.ready .any ops listed).contains i && Region.free .any ops listed i && !(T.contains i) && (!ld || T.all fun j => reach .any ops ops.size i j) then
     match trReg P ops T r n (listed.setIfInBounds i true) with
     | some r' => some (.op (if ld then .l else .p) (tr P o.op) o.dst g r')
     | none => none
    else none
   | none => none
  | none => none
 | .mem i r, n + 1, listed => match ops[i]? with
  | some o => match gOf ops o with
   | some g => if Region.ready .any ops listed == [i] then
     match trReg P ops T r n (listed.setIfInBounds i true) with
     | some r' => some (.op (if T.any fun j => (listed.setIfInBounds i true).getD j false then .t else .m) (tr P o.op) o.dst g r')
     | none => none
    else none
   | none => none
  | none => none
 | .alt i j ri rj, n + 1, listed => match ops[i]?, ops[j]? with
  | some oi, some oj => match gOf ops oi, gOf ops oj with
   | some gi, some gj => if Region.ready .any ops listed == [i, j] then
     match trReg P ops T ri n (listed.setIfInBounds i true), trReg P ops T rj n (listed.setIfInBounds j true) with
     | some a, some b => some (.alt (.op (if T.any fun k => (listed.setIfInBounds i true).getD k false then .t else .m) (tr P oi.op) oi.dst gi a) (.op (if T.any fun k => (listed.setIfInBounds j true).getD k false then .t else .m) (tr P oj.op) oj.dst gj b))
     | _, _ => none
    else none
   | _, _ => none
  | _, _ => none
 | .alt3 i j k ri rj rk, n + 1, listed => match ops[i]?, ops[j]?, ops[k]? with
  | some oi, some oj, some ok => match gOf ops oi, gOf ops oj, gOf ops ok with
   | some gi, some gj, some gk => if Region.ready .any ops listed == [i, j, k] then
     match trReg P ops T ri n (listed.setIfInBounds i true), trReg P ops T rj n (listed.setIfInBounds j true), trReg P ops T rk n (listed.setIfInBounds k true) with
     | some a, some b, some c => some (.alt (.op (if T.any fun q => (listed.setIfInBounds i true).getD q false then .t else .m) (tr P oi.op) oi.dst gi a) (.alt (.op (if T.any fun q => (listed.setIfInBounds j true).getD q false then .t else .m) (tr P oj.op) oj.dst gj b) (.op (if T.any fun q => (listed.setIfInBounds k true).getD q false then .t else .m) (tr P ok.op) ok.dst gk c)))
     | _, _, _ => none
    else none
   | _, _, _ => none
  | _, _, _ => none
 | _, 0, _ => none
def isMem (P : Program) (o : Oper) : Bool := match tr P o.op with
 | .alc _ _ => true
 | .box _ _ => true
 | .bsl _ _ _ _ _ => true
 | .sto _ _ _ => true
 | .call _ _ => true
 | .app _ _ _ => true
 | .oth _ => true
 | _ => false
def isLd (P : Program) (o : Oper) : Bool := match tr P o.op with
 | .ld _ _ _ => true
 | _ => false
def tmpsOf (o : Oper) : List Tmp := o.op.operands.toList.filterMap fun | .tmp t => some t | _ => none
def taint (P : Program) : List Oper → List Tmp → List Tmp
 | [], l => l
 | o :: r, l => if isMem P o || (tmpsOf o).any l.contains then taint P r (match o.dst with | some d => d :: l | none => l) else taint P r l
def mkPlan (P : Program) (ops : Array Oper) (T : List Nat) (tt : List Tmp) : Nat → Array Bool → Plan
 | 0, _ => .done
 | n + 1, listed =>
  let rd := Region.ready .any ops listed
  let noT := !(T.any fun j => listed.getD j false)
  match rd.find? fun i => match ops[i]? with
   | some o => !isMem P o && (!isLd P o || (noT && !((tmpsOf o).any tt.contains) && T.all fun j => reach .any ops ops.size i j))
   | none => false with
  | some i => .pure i (match ops[i]? with | some o => isLd P o | none => false) (mkPlan P ops T tt n (listed.setIfInBounds i true))
  | none => match rd with
   | [] => .done
   | [i] => .mem i (mkPlan P ops T tt n (listed.setIfInBounds i true))
   | [i, j] => .alt i j (mkPlan P ops T tt n (listed.setIfInBounds i true)) (mkPlan P ops T tt n (listed.setIfInBounds j true))
   | [i, j, k] => .alt3 i j k (mkPlan P ops T tt n (listed.setIfInBounds i true)) (mkPlan P ops T tt n (listed.setIfInBounds j true)) (mkPlan P ops T tt n (listed.setIfInBounds k true))
   | _ => .done
def rootOf (P : Program) (ops : List Oper) : Nat → Tmp → Tmp
 | 0, t => t
 | n + 1, t => match ops.find? fun o => o.dst == some t with
  | some o => match tr P o.op with
   | .fad (.tmp x) _ => rootOf P ops n x
   | .nil (.tmp x) => rootOf P ops n x
   | .mv (.tmp x) => rootOf P ops n x
   | _ => t
  | none => t
def stoRoot (P : Program) (ops : List Oper) (o : Oper) : Option Tmp := match tr P o.op with
 | .sto (.tmp x) _ _ => some (rootOf P ops 9 x)
 | _ => none
def ldRoot (P : Program) (ops : List Oper) (o : Oper) : Option Tmp := match tr P o.op with
 | .ld (.tmp x) _ _ => some (rootOf P ops 9 x)
 | _ => none
def xsOf (P : Program) (ops : List Oper) : List Tmp := ((ops.filterMap (stoRoot P ops)).filter fun t => !(ops.filterMap (ldRoot P ops)).contains t && !(ops.any fun o => o.dst == some t)).eraseDups
def isTail (P : Program) (tl : List FuncId) (xs : List Tmp) (ops : List Oper) (o : Oper) : Bool := match tr P o.op with
 | .sto _ _ _ => match stoRoot P ops o with
  | some t => !xs.contains t
  | none => true
 | .call f _ => tl.contains f
 | _ => false
def planOf (P : Program) (tl : List FuncId) (ops : Array Oper) : List Tmp × List Nat × Plan :=
 let xs := xsOf P ops.toList
 let T := (List.range ops.size).filter fun i => match ops[i]? with | some o => isTail P tl xs ops.toList o | none => false
 (xs, T, mkPlan P ops T (taint P ops.toList (tl.filterMap fun x => if 1000000 ≤ x then some (x - 1000000) else none)) ops.size (Array.replicate ops.size false))
def xnm (t : List SV) : List Tmp → List Nat
 | [] => []
 | p :: r => match gt t p with
  | .c (.p k _) => k :: xnm t r
  | _ => xnm t r
def trSeq (P : Program) (ops : Array Oper) : List Oper → Option IReg
 | [] => some .done
 | o :: l => match gOf ops o, trSeq P ops l with
  | some g, some r => some (.op .t (tr P o.op) o.dst g r)
  | _, _ => none
def callM (P : Program) (f : FuncId) (args : List Operand) (d : Option Nat) (s : St) (K : St → Prop) : Prop := ∀ o : Oper, tr P o.op = .call f args → o.dst = d → opM P o s K
def callT (P : Program) (f : FuncId) (args : List Operand) (d : Option Nat) (s : St) (K : St → Prop) : Prop := ∀ o : Oper, tr P o.op = .call f args → o.dst = d → opT P o s K
def appM (P : Program) (t : TypeId) (a b : Operand) (d : Option Nat) (s : St) (K : St → Prop) : Prop := ∀ o : Oper, tr P o.op = .app t a b → o.dst = d → opM P o s K
def appT (P : Program) (t : TypeId) (a b : Operand) (d : Option Nat) (s : St) (K : St → Prop) : Prop := ∀ o : Oper, tr P o.op = .app t a b → o.dst = d → opT P o s K
theorem appM.toT {P : Program} {t : TypeId} {a b : Operand} {d : Option Nat} {s : St} {K : St → Prop} (h : appM P t a b d s K) : appT P t a b d s K := fun o h1 h2 => (h o h1 h2).toT
def othM (P : Program) (op : Op) (d : Option Nat) (s : St) (K : St → Prop) : Prop := ∀ o : Oper, o.op = op → o.dst = d → opM P o s K
def othT (P : Program) (op : Op) (d : Option Nat) (s : St) (K : St → Prop) : Prop := ∀ o : Oper, o.op = op → o.dst = d → opT P o s K
def stoV (P : Program) (x y : Operand) (sz : Nat) (d : Option Nat) (s : St) (K : St → Prop) : Prop := ∀ o : Oper, tr P o.op = .sto x y sz → o.dst = d → opT P o s K
def vcM (X : List Nat) (P : Program) (i : IOp) (d : Option Nat) (s : St) (K : St → Prop) : Prop := match i with
 | .call f args => callM P f args d s K
 | .app t a b => appM P t a b d s K
 | .oth op => othM P op d s K
 | .sto x y sz => match ev s.t x with
  | .c (.p k _) => k ∈ X ∧ vcm (.sto x y sz) d s K
  | _ => False
 | i => vcm i d s K
def vcT (P : Program) (i : IOp) (d : Option Nat) (s : St) (K : St → Prop) : Prop := match i with
 | .call f args => callT P f args d s K
 | .app t a b => appT P t a b d s K
 | .oth op => othT P op d s K
 | .sto x y sz => match ev s.t x with
  | .c (.f _ _) => stoV P x y sz d s K
  | _ => vcm (.sto x y sz) d s K
 | i => vcm i d s K
def vcG (g : Option (Nat × Bool)) (s : St) (A B : Prop) : Prop := match g with
 | none => A
 | some (t, b) => match gt s.t t with
  | .c (.v (.bool q)) => (q = b → A) ∧ (q = !b → B)
  | .c (.v (.tuple _)) => B
  | _ => False
def remX (X : List Nat) : Ents → Ents
 | [] => []
 | (k, e) :: L => if X.contains k then remX X L else (k, e) :: remX X L
def vcO (X : List Nat) (P : Program) (kd : Kd) (i : IOp) (d : Option Nat) (s0 s : St) (K : St → Prop) : Prop := match kd with
 | .p => vcp i s.t fun v => K ⟨stO s.t d v, s.L, s.z, s.n⟩
 | .l => match i with
  | .ld x sz agg => vcl x sz agg s.t (remX X s0.L) (RdAt s0.z) fun v => K ⟨stO s.t d v, s.L, s.z, s.n⟩
  | _ => False
 | .m => vcM X P i d s K
 | .t => vcT P i d s K
def vcR (X : List Nat) (P : Program) : IReg → St → St → (St → Prop) → Prop
 | .done, _, s, K => K s
 | .op kd i d g r, s0, s, K => vcG g s (vcO X P kd i d s0 s fun s' => vcR X P r s0 s' K) (vcR X P r s0 ⟨stO s.t d unS, s.L, s.z, s.n⟩ K)
 | .alt a b, s0, s, K => vcR X P a s0 s K ∧ vcR X P b s0 s K
section
variable {P : Program} {ops : Array Oper} {C : Ctx}
theorem gOf_spec {o : Oper} {g : Option (Nat × Bool)} (h : gOf ops o = some g) {s : St} {ρ : Nm} {a : Act} {w : World} (hs : Sat C ρ s a w) {A B : Prop} (hv : vcG g s A B) :
  (Region.wanted o (yielded ops a.tmps) = true ∧ A) ∨ (Region.wanted o (yielded ops a.tmps) = false ∧ B) := by
 unfold gOf at h
 unfold Region.wanted
 split at h
 ·rename_i hg
  injection h with h
  subst h
  rw [hg]
  exact .inl ⟨rfl, hv⟩
 ·rename_i j b hg
  rw [hg]
  split at h
  ·rename_i t ht
   injection h with h
   subst h
   have hden := gt_den t hs.fr
   simp only [yielded, ht, Option.bind_some]
   unfold vcG at hv
   simp only at hv
   split at hv
   ·rename_i q he
    rw [he] at hden
    have hden : a.tmps.toList.getD t undef = .bool q := hden
    have hget : a.tmps[t]? = some (.bool q) := by
     have h1 : a.tmps.toList[t]? = a.tmps[t]? := by simp
     rw [← h1]
     cases h2 : a.tmps.toList[t]? with
     | none => simp [List.getD, h2, undef] at hden
     | some u => simp [List.getD, h2] at hden; rw [hden]
    rw [hget]
    by_cases hq : q = b
    ·exact .inl ⟨by simp [hq], hv.1 hq⟩
    ·refine .inr ⟨by simp [hq], hv.2 ?_⟩
     cases q <;> cases b <;> simp_all
   ·rename_i vs he
    rw [he] at hden
    have hden : a.tmps.toList.getD t undef = .tuple vs := hden
    have : (match a.tmps[t]? with | some (.bool b) => some b | _ => none) = (none : Option Bool) := by
     have h1 : a.tmps.toList[t]? = a.tmps[t]? := by simp
     rw [← h1]
     cases h2 : a.tmps.toList[t]? with
     | none => rfl
     | some u => simp [List.getD, h2] at hden; rw [hden]
    refine .inr ⟨?_, hv⟩
    show ((match a.tmps[t]? with | some (.bool b) => some b | _ => none) == some b) = false
    rw [this]; rfl
   ·exact hv.elim
  ·cases h
theorem tr_ld {op : Op} {x : Operand} {sz : Nat} {agg : Bool} (h : tr P op = .ld x sz agg) : ∃ ty n, op = .load ty x ∧ szOf P ty = some (n + 1, agg) ∧ sz = n + 1 := by
 cases op <;> simp only [tr, trCall] at h <;> (repeat' split at h) <;> first
  | contradiction
  | (cases h; done)
  | (injection h with h1 h2 h3; subst h1; subst h2; subst h3; exact ⟨_, _, rfl, by assumption, rfl⟩)
theorem tr_alc {op : Op} {e : TypeId} {z : List Value} (h : tr P op = .alc e z) : op = .alloc e ∧ zeroOf P e = some z := by
 cases op <;> simp only [tr, trCall] at h <;> (repeat' split at h) <;> first
  | contradiction
  | (cases h; done)
  | (injection h with h1 h2; subst h1; subst h2; exact ⟨rfl, by assumption⟩)
theorem tr_box {op : Op} {e : TypeId} {x : Operand} (h : tr P op = .box e x) : op = .box e x := by
 cases op <;> simp only [tr, trCall] at h <;> (repeat' split at h) <;> first
  | contradiction
  | (cases h; done)
  | (injection h with h1 h2; subst h1; subst h2; rfl)
theorem tr_bsl {op : Op} {e : TypeId} {sz len : Nat} {z : List Value} {ps : List (Nat × Operand)} (h : tr P op = .bsl e sz len z ps) : ∃ ty ps' agg, op = .buildSlice ty len ps' ∧ ps = ps'.toList ∧ isSlice P ty = some e ∧ szOf P e = some (sz, agg) ∧ zeroOf P e = some z ∧ len * sz ≤ 1000 ∧ z.length = sz := by
 cases op <;> simp only [tr, trCall] at h <;> (repeat' split at h) <;> first
  | contradiction
  | (cases h; done)
  | (rename_i hb; simp only [Bool.and_eq_true, decide_eq_true_eq, beq_iff_eq] at hb; injection h with h1 h2 h3 h4 h5; subst h1; subst h2; subst h3; subst h4; exact ⟨_, _, _, rfl, h5.symm, by assumption, by assumption, by assumption, hb.1, hb.2⟩)
theorem tr_sto {op : Op} {x y : Operand} {sz : Nat} (h : tr P op = .sto x y sz) : ∃ ty agg, op = .store ty x y ∧ szOf P ty = some (sz, agg) := by
 cases op <;> simp only [tr, trCall] at h <;> (repeat' split at h) <;> first
  | contradiction
  | (cases h; done)
  | (injection h with h1 h2 h3; subst h1; subst h2; subst h3; exact ⟨_, _, rfl, by assumption⟩)
theorem tr_oth {op op' : Op} (h : tr P op = .oth op') : op = op' := by
 cases op <;> simp only [tr, trCall] at h <;> (repeat' split at h) <;> first
  | contradiction
  | (cases h; done)
  | (injection h)
theorem vcm_opM {o : Oper} {s : St} {K : St → Prop} {i : IOp} (hi : tr P o.op = i) (hn : ∀ x y sz, i ≠ .sto x y sz) (hv : vcm i o.dst s K) : opM P o s K := by
 cases i with
 | ld x sz agg => obtain ⟨ty, n, h1, h2, rfl⟩ := tr_ld hi; exact opM_ld h1 h2 hv
 | alc e z => obtain ⟨h1, h2⟩ := tr_alc hi; exact opM_alc h1 h2 hv
 | box e x =>
  simp only [vcm] at hv
  split at hv
  ·rename_i cs hcs; exact opM_box (tr_box hi) hcs hv.1 hv.2
  ·exact hv.elim
 | bsl e sz len z ps => obtain ⟨ty, ps', agg, h1, rfl, h2, h3, h4, h5, h6⟩ := tr_bsl hi; exact opM_bsl h1 h2 h3 h4 h5 h6 hv
 | sto x y sz => exact absurd rfl (hn x y sz)
 | _ => exact opM_pure (by rw [hi]; exact hv)
theorem vcm_opT {o : Oper} {s : St} {K : St → Prop} {i : IOp} (hi : tr P o.op = i) (hv : vcm i o.dst s K) : opT P o s K := by
 by_cases hn : ∀ x y sz, i ≠ .sto x y sz
 ·exact (vcm_opM hi hn hv).toT
 ·have : ∃ x y sz, i = .sto x y sz := Classical.byContradiction fun h => hn fun x y sz e => h ⟨x, y, sz, e⟩
  obtain ⟨x, y, sz, rfl⟩ := this
  obtain ⟨ty, agg, h1, h2⟩ := tr_sto hi
  simp only [vcm] at hv
  split at hv
  ·rename_i k off hx
   split at hv
   ·rename_i e cs hk
    split at hv
    ·rename_i ds hds; exact opT_sto h1 h2 hx hk hds hv.1.1 hv.1.2.1 hv.1.2.2 hv.2
    ·exact hv.elim
   ·exact hv.elim
  ·exact hv.elim
theorem vcM_opX {X : List Nat} {o : Oper} {s : St} {K : St → Prop} (hv : vcM X P (tr P o.op) o.dst s K) : opX X P o s K := by
 generalize hi : tr P o.op = i at hv
 unfold vcM at hv
 split at hv
 ·exact (hv o hi rfl).toX
 ·exact (hv o hi rfl).toX
 ·exact (hv o (tr_oth hi) rfl).toX
 ·split at hv
  ·rename_i x y sz _ k off hx
   obtain ⟨hX, hv⟩ := hv
   obtain ⟨ty, agg, h1, h2⟩ := tr_sto hi
   simp only [vcm, hx] at hv
   split at hv
   ·rename_i e cs hk
    split at hv
    ·rename_i ds hds; exact opX_sto h1 h2 hx hk hds hv.1.1 hv.1.2.1 hv.1.2.2 hv.2 hX
    ·exact hv.elim
   ·exact hv.elim
  ·exact hv.elim
 ·rename_i h1 h2 h3 h4; exact (vcm_opM hi (fun x y sz e => h4 x y sz e) hv).toX
theorem vcT_opT {o : Oper} {s : St} {K : St → Prop} (hv : vcT P (tr P o.op) o.dst s K) : opT P o s K := by
 generalize hi : tr P o.op = i at hv
 unfold vcT at hv
 split at hv
 ·exact hv o hi rfl
 ·exact hv o hi rfl
 ·exact hv o (tr_oth hi) rfl
 ·split at hv
  ·exact hv o hi rfl
  ·exact vcm_opT hi hv
 ·exact vcm_opT hi hv
end
end Go.Proofs.YtllafcmkppmdgaaGreat
