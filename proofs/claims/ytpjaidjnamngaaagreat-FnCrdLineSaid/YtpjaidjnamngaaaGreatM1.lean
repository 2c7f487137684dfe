/- The engine, third part: single operations do what is said of them. · The engine, fourth part: building, reading and writing. · The engine, fifth part: operations on a state. -/
import Derived.Test.YtpjaidjnamngaaaGreatM0
namespace Go.Proofs.YtpjaidjnamngaaaGreat
set_option linter.unusedVariables false
set_option linter.unusedSimpArgs false
open Go.RowKit
section
variable {P : Program}
theorem szOf_spec {t : TypeId} {sz : Nat} {agg : Bool} (h : szOf P t = some (sz, agg)) : (∀ w, (sizeOf t).run P w = .ok sz w) ∧ (∀ w, (isAgg t).run P w = .ok agg w) ∧ (P.info? t).map (·.size) = some sz ∧ ∃ d, P.underlying t = some d ∧ d.isRow = agg := by
  unfold szOf at h
  split at h
  · rename_i i d hi hd
    simp only [Option.some.injEq, Prod.mk.injEq] at h
    obtain ⟨rfl, rfl⟩ := h
    refine ⟨fun w => by simp [sizeOf, typeInfo, hi], fun w => ?_, by simp [hi], d, hd, rfl⟩
    unfold isAgg
    rw [Sem.run_bind, run_underlying hd w]
    cases d <;> rfl
  · cases h
theorem fields_spec {t : TypeId} {fs : Array Field} (h : fields P t = some fs) : P.underlying t = some (.struct fs) := by
  unfold fields at h
  split at h
  · rename_i hd; injection h with h; rw [hd, h]
  · cases h
theorem isSlice_spec {t e : TypeId} (h : isSlice P t = some e) : P.underlying t = some (.slice e) := by
  unfold isSlice at h
  split at h
  · rename_i hd; injection h with h; rw [hd, h]
  · cases h
theorem isInt_spec {t : TypeId} {k : IntKind} (h : isInt P t = some k) : P.underlying t = some (.int k) := by
  unfold isInt at h
  split at h
  · rename_i hd; injection h with h; rw [hd, h]
  · cases h
theorem isBool_spec {t : TypeId} (h : isBool P t = true) : P.underlying t = some .bool := by
  unfold isBool at h
  split at h
  · rename_i hd; rw [hd]
  · cases h
theorem zeroOf_spec {t : TypeId} {z : List Value} (h : zeroOf P t = some z) : ∃ zv, (∀ w, (zeroValue t).run P w = .ok zv w) ∧ zv.cells.toList = z := by
  unfold zeroOf at h
  split at h
  · rename_i i hi
    cases hz : i.zero with
    | none => simp [hz] at h
    | some zv =>
      simp [hz] at h
      exact ⟨zv, fun w => by simp [zeroValue, typeInfo, hi, hz], h⟩
  · cases h
/-- What an operation yields, in whatever world. -/
def Run (P : Program) (a : Act) (o : Oper) (v : Value) : Prop := ∀ w, (execOp a.eval o).run P w = .ok (.value v) w
section
variable {a : Act} {o : Oper} {ρ : Nm} {t : List SV} {K : SV → Prop}
theorem run_v {s : Sem Value} {v : Value} {w w' : World} (h : s.run P w = .ok v w') : (do pure (Next.value (← s)) : Sem Next).run P w = .ok (.value v) w' := by simp [h]
theorem den_a {xs : List SC} {u : Value} (h : (SV.a xs).den ρ u) : ∃ vs, DL (SC.den ρ) xs vs ∧ u = .agg vs.toArray := h
theorem den_t {xs : List TE} {u : Value} (h : (SV.t xs).den ρ u) : ∃ vs, DL (TE.den ρ) xs vs ∧ u = .tuple vs.toArray := h
theorem run_fieldPlace {f : Field} {n : Nat} {agg : Bool} (h : szOf P f.type = some (n + 1, agg)) (b o : Nat) (w : World) : (fieldPlace ⟨b, o, none⟩ f).run P w = .ok ⟨b, o + f.offset, none⟩ w := by
  unfold fieldPlace
  rw [Sem.run_bind, (szOf_spec h).1 w]
  simp only [Result.andThen_ok]
  rw [if_neg (by omega), Sem.run_pure, Addr.add_mid]
theorem run_fieldAt {s : TypeId} {fs : Array Field} {f : Field} {i n : Nat} {agg : Bool} (hs : fields P s = some fs) (hf : fs[i]? = some f) (h : szOf P f.type = some (n + 1, agg)) (b o : Nat) (w : World) :
    (Instr.fieldAt s (.pointer (some ⟨b, o, none⟩)) i).run P w = .ok (.pointer (some ⟨b, o + f.offset, none⟩)) w := by
  unfold Instr.fieldAt
  rw [Sem.run_bind, run_underlying (fields_spec hs)]
  simp only [Result.andThen_ok, hf, Instr.sureAddr, Sem.run_bind, Sem.run_pure, run_fieldPlace h]
theorem run_field {s : TypeId} {fs : Array Field} {f : Field} {i sz : Nat} {agg : Bool} (hs : fields P s = some fs) (hf : fs[i]? = some f) (h : szOf P f.type = some (sz, agg)) (cs : Array Value) (w : World) (v : Value)
    (hv : if agg then v = .agg (cs.extract f.offset (f.offset + sz)) else cs[f.offset]? = some v) : (Instr.field s (.agg cs) i).run P w = .ok v w := by
  unfold Instr.field
  rw [Sem.run_bind, run_underlying (fields_spec hs)]
  simp only [Result.andThen_ok, hf, asAgg, Sem.run_bind, Sem.run_pure, part, (szOf_spec h).2.1 w]
  cases agg with
  | true => simp only [if_true] at hv ⊢; simp [(szOf_spec h).1 w, hv]
  | false => simp only [Bool.false_eq_true, if_false] at hv ⊢; simp [hv]
theorem run_indexAt {s e : TypeId} {sz : Nat} {agg : Bool} (hs : isSlice P s = some e) (h : szOf P e = some (sz, agg)) (b o n c : Nat) (k : IntKind) (j : Int) (h0 : 0 ≤ j) (h1 : j < n) (w : World) :
    (Instr.indexAt s (.slice (some ⟨b, o, none⟩) n c) (.int k j)).run P w = .ok (.pointer (some ⟨b, o + j.toNat * sz, none⟩)) w := by
  unfold Instr.indexAt
  simp only [asIntOf, Sem.run_bind, Sem.run_pure, Result.andThen_ok, run_underlying (isSlice_spec hs), and_self, h0, h1, if_true, (szOf_spec h).1 w, Addr.add_mid]
theorem vcp_fld {s : TypeId} {x : Operand} {i : Nat} {fs : Array Field} {f : Field} {sz : Nat} {agg : Bool} (ho : o.op = .field s x i) (hs : fields P s = some fs) (hf : fs[i]? = some f) (h : szOf P f.type = some (sz, agg))
    (hv : vcp (.fld x f.offset sz agg) t K) (hd : DL (SV.den ρ) t a.tmps.toList) : ∃ sv v, K sv ∧ sv.den ρ v ∧ Run P a o v := by
  simp only [vcp] at hv
  have hx := ev_den hd x
  split at hv
  · rename_i xs he
    rw [he] at hx
    obtain ⟨vs, h1, h2⟩ := den_a hx
    have hrun : ∀ v, (if agg then v = .agg (vs.toArray.extract f.offset (f.offset + sz)) else vs.toArray[f.offset]? = some v) → Run P a o v := fun v hv w => by
      unfold execOp
      simp only [ho]
      exact run_v (by rw [h2]; exact run_field hs hf h _ w v hv)
    cases agg with
    | true =>
      refine ⟨_, _, hv, ⟨_, (h1.drop f.offset).take sz, rfl⟩, hrun _ ?_⟩
      simp [List.extract_eq_take_drop]
    | false =>
      simp only [Bool.false_eq_true, if_false] at hv
      split at hv
      · rename_i y hy
        obtain ⟨u, hu, hden⟩ := h1.get hy
        exact ⟨_, _, hv, hden, hrun _ (by simpa using hu)⟩
      · exact hv.elim
  · exact hv.elim
theorem vcp_mv {x : Operand} (ho : o.op = .move x ∨ o.op = .assign x) (hv : vcp (.mv x) t K) (hd : DL (SV.den ρ) t a.tmps.toList) : ∃ sv v, K sv ∧ sv.den ρ v ∧ Run P a o v :=
  ⟨_, _, hv, ev_den hd x, fun w => by unfold execOp; rcases ho with ho | ho <;> simp [ho]⟩
theorem vcp_pick {c x y : Operand} (ho : o.op = .pick c x y) (hv : vcp (.pick c x y) t K) (hd : DL (SV.den ρ) t a.tmps.toList) : ∃ sv v, K sv ∧ sv.den ρ v ∧ Run P a o v := by
  simp only [vcp] at hv
  have hc := ev_den hd c
  split at hv
  · rename_i q he
    rw [he] at hc
    have hc : a.eval c = .bool q := hc
    cases q with
    | true => exact ⟨_, _, hv.1 rfl, ev_den hd x, fun w => by unfold execOp; simp [ho, hc, asBool]⟩
    | false => exact ⟨_, _, hv.2 rfl, ev_den hd y, fun w => by unfold execOp; simp [ho, hc, asBool]⟩
  · exact hv.elim
theorem vcp_ext {x : Operand} {i : Nat} (ho : o.op = .extract x i) (hv : vcp (.ext x i) t K) (hd : DL (SV.den ρ) t a.tmps.toList) : ∃ sv v, K sv ∧ sv.den ρ v ∧ Run P a o v := by
  simp only [vcp] at hv
  have hx := ev_den hd x
  split at hv
  · rename_i xs he
    rw [he] at hx
    obtain ⟨vs, h1, h2⟩ := den_t hx
    have hrun : ∀ v, vs[i]? = some v → Run P a o v := fun v hv w => by
      unfold execOp
      simp [ho, h2, Instr.extract, hv]
    split at hv
    · rename_i y hy
      obtain ⟨u, hu, hden⟩ := h1.get hy
      exact ⟨_, _, hv, hden, hrun _ hu⟩
    · rename_i y hy
      obtain ⟨u, hu, hden⟩ := h1.get hy
      exact ⟨_, _, hv, hden, hrun _ hu⟩
    · exact hv.elim
  · exact hv.elim
theorem vcp_nil {x : Operand} (ho : o.op = .nilCheck x) (hv : vcp (.nil x) t K) (hd : DL (SV.den ρ) t a.tmps.toList) : ∃ sv v, K sv ∧ sv.den ρ v ∧ Run P a o v := by
  simp only [vcp] at hv
  have hx := ev_den hd x
  split at hv
  · rename_i k j he
    rw [he] at hx
    obtain ⟨b, h1, h2⟩ := hx
    exact ⟨_, _, hv, ⟨b, h1, rfl⟩, fun w => by unfold execOp; simp [ho, h2]⟩
  · rename_i A j he
    rw [he] at hx
    obtain ⟨b, o', h1, h2⟩ := hx
    exact ⟨_, _, hv, ⟨b, o', h1, rfl⟩, fun w => by unfold execOp; simp [ho, h2]⟩
  · rename_i p he
    rw [he] at hx
    have hx : a.eval x = .pointer (some p) := hx
    exact ⟨_, _, hv, rfl, fun w => by unfold execOp; simp [ho, hx]⟩
  · rename_i f b c he
    rw [he] at hx
    have hx : a.eval x = .func (.func f) b c := hx
    exact ⟨_, _, hv, rfl, fun w => by unfold execOp; simp [ho, hx]⟩
  · exact hv.elim
theorem vcp_fad {s : TypeId} {x : Operand} {i : Nat} {fs : Array Field} {f : Field} {n : Nat} {agg : Bool} (ho : o.op = .fieldAddr s x i) (hs : fields P s = some fs) (hf : fs[i]? = some f) (h : szOf P f.type = some (n + 1, agg))
    (hv : vcp (.fad x f.offset) t K) (hd : DL (SV.den ρ) t a.tmps.toList) : ∃ sv v, K sv ∧ sv.den ρ v ∧ Run P a o v := by
  simp only [vcp] at hv
  have hx := ev_den hd x
  split at hv
  · rename_i k j he
    rw [he] at hx
    obtain ⟨b, h1, h2⟩ := hx
    exact ⟨_, _, hv, ⟨b, h1, rfl⟩, fun w => by unfold execOp; simp only [ho]; exact run_v (by rw [h2]; exact run_fieldAt hs hf h b j w)⟩
  · rename_i A j he
    rw [he] at hx
    obtain ⟨b, o', h1, h2⟩ := hx
    exact ⟨_, _, hv, ⟨b, o', h1, by rw [← Nat.add_assoc]⟩, fun w => by unfold execOp; simp only [ho]; exact run_v (by rw [h2]; exact run_fieldAt hs hf h b (o' + j) w)⟩
  · exact hv.elim
theorem vcp_iad {s e : TypeId} {x i : Operand} {sz : Nat} {agg : Bool} (ho : o.op = .indexAddr s x i) (hs : isSlice P s = some e) (h : szOf P e = some (sz, agg)) (hv : vcp (.iad x i sz) t K) (hd : DL (SV.den ρ) t a.tmps.toList) : ∃ sv v, K sv ∧ sv.den ρ v ∧ Run P a o v := by
  simp only [vcp] at hv
  have hx := ev_den hd x
  have hi := ev_den hd i
  split at hv
  · rename_i k j n c he
    rw [he] at hx
    obtain ⟨b, h1, h2⟩ := hx
    split at hv
    · rename_i kk q hq
      rw [hq] at hi
      have hi : a.eval i = .int kk q := hi
      exact ⟨_, _, hv.2, ⟨b, h1, rfl⟩, fun w => by unfold execOp; simp only [ho]; exact run_v (by rw [h2, hi]; exact run_indexAt hs h b j n c kk q hv.1.1 hv.1.2 w)⟩
    · exact hv.elim
  · rename_i A n c he
    rw [he] at hx
    have hx : a.eval x = .slice A n c := hx
    split at hv
    · rename_i kk q hq
      rw [hq] at hi
      have hi : a.eval i = .int kk q := hi
      obtain ⟨⟨h0, h1, b, o', hA⟩, hk⟩ := hv
      subst hA
      exact ⟨_, _, hk, ⟨b, o', rfl, rfl⟩, fun w => by unfold execOp; simp only [ho]; exact run_v (by rw [hx, hi]; exact run_indexAt hs h b o' n c kk q h0 h1 w)⟩
    · exact hv.elim
  · exact hv.elim
theorem run_sliceAt {s e : TypeId} {sz : Nat} {agg : Bool} (hs : isSlice P s = some e) (h : szOf P e = some (sz, agg)) (A : Option Addr) (n c : Nat) (lo hi : Option Value) (l h' : Int) (hl : lo = none ∧ l = 0 ∨ ∃ k, lo = some (.int k l)) (hh : hi = none ∧ h' = n ∨ (∃ k, hi = some (.int k h')) ∧ h' ≤ c)
    (h0 : 0 ≤ l) (h1 : l ≤ h') (w : World) : (Instr.sliceAt s (.slice A n c) lo hi none).run P w = .ok (.slice (cutA A c l.toNat sz) (h'.toNat - l.toNat) (c - l.toNat)) w := by
  have hs' : ∀ w, (underlying s).run P w = .ok (.slice e) w := fun w => run_underlying (isSlice_spec hs) w
  have hz := (szOf_spec h).1
  have h2 : 0 ≤ h' := by omega
  have h3 : l ≤ (h'.toNat : Int) := by omega
  obtain ⟨m, rfl⟩ := Int.eq_ofNat_of_zero_le h2
  obtain ⟨q, rfl⟩ := Int.eq_ofNat_of_zero_le h0
  have h4 : q ≤ m := by omega
  rcases hl with ⟨rfl, hl⟩ | ⟨k, rfl⟩ <;> rcases hh with ⟨rfl, hh⟩ | ⟨⟨k', rfl⟩, hc⟩
  · obtain rfl : m = n := by omega
    obtain rfl : q = 0 := by omega
    simp [Instr.sliceAt, Instr.slice, Instr.sliceBounds, hs', hz, cutA]
  · obtain rfl : q = 0 := by omega
    have hc' : m ≤ c := by omega
    simp [Instr.sliceAt, Instr.slice, Instr.sliceBounds, Instr.sliceBound, asIntOf, hs', hz, cutA, hc']
  · obtain rfl : m = n := by omega
    simp [Instr.sliceAt, Instr.slice, Instr.sliceBounds, Instr.sliceBound, asIntOf, hs', hz, cutA, h4]
  · have hc' : m ≤ c := by omega
    simp [Instr.sliceAt, Instr.slice, Instr.sliceBounds, Instr.sliceBound, asIntOf, hs', hz, cutA, h4, hc']
theorem optI_den {d : Int} {x : Option Operand} {j : Int} (h : optI d t x = some j) (hd : DL (SV.den ρ) t a.tmps.toList) : x.map a.eval = none ∧ j = d ∧ x = none ∨ (∃ k, x.map a.eval = some (.int k j)) ∧ x.isSome = true := by
  unfold optI at h
  cases x with
  | none => simp at h; exact .inl ⟨rfl, h.symm, rfl⟩
  | some x =>
    have hx := ev_den hd x
    simp only at h
    split at h
    · rename_i k j' he
      injection h with h
      rw [he] at hx
      have hx : a.eval x = .int k j' := hx
      exact .inr ⟨⟨k, by simp [hx, h]⟩, rfl⟩
    · cases h
theorem vcp_slc {s e : TypeId} {x : Operand} {lo hi : Option Operand} {sz : Nat} {agg : Bool} (ho : o.op = .slice s x lo hi none) (hs : isSlice P s = some e) (h : szOf P e = some (sz, agg)) (hv : vcp (.slc x lo hi sz) t K) (hd : DL (SV.den ρ) t a.tmps.toList) : ∃ sv v, K sv ∧ sv.den ρ v ∧ Run P a o v := by
  simp only [vcp] at hv
  have hx := ev_den hd x
  split at hv
  · rename_i A n c he
    rw [he] at hx
    have hx : a.eval x = .slice A n c := hx
    split at hv
    · rename_i l h' hl hh
      obtain ⟨⟨h0, h1, h2⟩, hk⟩ := hv
      refine ⟨_, _, hk, rfl, fun w => ?_⟩
      unfold execOp
      simp only [ho]
      refine run_v ?_
      rw [hx]
      refine run_sliceAt hs h A n c _ _ l h' ?_ ?_ h0 h1 w
      · rcases optI_den hl hd with ⟨e1, e2, _⟩ | ⟨e1, _⟩
        · exact .inl ⟨e1, e2⟩
        · exact .inr e1
      · rcases optI_den hh hd with ⟨e1, e2, _⟩ | ⟨e1, e2⟩
        · exact .inl ⟨e1, e2⟩
        · exact .inr ⟨e1, h2 e2⟩
    · exact hv.elim
  · exact hv.elim
theorem run_sliceAt3 {s e : TypeId} {sz : Nat} {agg : Bool} (hs : isSlice P s = some e) (h : szOf P e = some (sz, agg)) (A : Option Addr) (n c : Nat) (lo : Option Value) (k2 k3 : IntKind) (l h' m : Int) (hl : lo = none ∧ l = 0 ∨ ∃ k, lo = some (.int k l))
    (h0 : 0 ≤ l) (h1 : l ≤ h') (h2 : h' ≤ m) (h3 : m ≤ c) (w : World) : (Instr.sliceAt s (.slice A n c) lo (some (.int k2 h')) (some (.int k3 m))).run P w = .ok (.slice (cutA A m.toNat l.toNat sz) (h'.toNat - l.toNat) (m.toNat - l.toNat)) w := by
  have hs' : ∀ w, (underlying s).run P w = .ok (.slice e) w := fun w => run_underlying (isSlice_spec hs) w
  have hz := (szOf_spec h).1
  obtain ⟨q, rfl⟩ := Int.eq_ofNat_of_zero_le h0
  obtain ⟨x, rfl⟩ := Int.eq_ofNat_of_zero_le (show 0 ≤ h' by omega)
  obtain ⟨y, rfl⟩ := Int.eq_ofNat_of_zero_le (show 0 ≤ m by omega)
  have g1 : q ≤ x := by omega
  have g2 : x ≤ y := by omega
  have g3 : y ≤ c := by omega
  rcases hl with ⟨rfl, hl⟩ | ⟨k, rfl⟩
  · obtain rfl : q = 0 := by omega
    simp [Instr.sliceAt, Instr.slice, Instr.sliceBounds, Instr.sliceBound, asIntOf, hs', hz, cutA, g2, g3]
  · simp [Instr.sliceAt, Instr.slice, Instr.sliceBounds, Instr.sliceBound, asIntOf, hs', hz, cutA, g1, g2, g3]
theorem vcp_sl3 {s e : TypeId} {x hi mx : Operand} {lo : Option Operand} {sz : Nat} {agg : Bool} (ho : o.op = .slice s x lo (some hi) (some mx)) (hs : isSlice P s = some e) (h : szOf P e = some (sz, agg)) (hv : vcp (.sl3 x lo hi mx sz) t K) (hd : DL (SV.den ρ) t a.tmps.toList) : ∃ sv v, K sv ∧ sv.den ρ v ∧ Run P a o v := by
  simp only [vcp] at hv
  have hx := ev_den hd x
  split at hv
  · rename_i A n c he
    rw [he] at hx
    have hx : a.eval x = .slice A n c := hx
    split at hv
    · rename_i l h' m hl hh hm
      obtain ⟨⟨h0, h1, h2, h3⟩, hk⟩ := hv
      refine ⟨_, _, hk, rfl, fun w => ?_⟩
      unfold execOp
      simp only [ho]
      refine run_v ?_
      rw [hx]
      rcases optI_den hh hd with ⟨_, _, e1⟩ | ⟨⟨k2, e2⟩, _⟩
      · cases e1
      · rcases optI_den hm hd with ⟨_, _, e1⟩ | ⟨⟨k3, e3⟩, _⟩
        · cases e1
        · rw [e2, e3]
          refine run_sliceAt3 hs h A n c _ k2 k3 l h' m ?_ h0 h1 h2 h3 w
          rcases optI_den hl hd with ⟨e1, e2, _⟩ | ⟨e1, _⟩
          · exact .inl ⟨e1, e2⟩
          · exact .inr e1
    · exact hv.elim
  · exact hv.elim
theorem run_eqGuard_int (op : BinOp) (ty : TypeId) (x y : Operand) (k k' : IntKind) (p q : Int) (w : World) : (eqGuard op ty x y (.int k p) (.int k' q)).run P w = .ok () w := by
  unfold eqGuard; cases op <;> simp
theorem binK_run {op : BinOp} {k k' : IntKind} {p q : Int} {Kv : Value → Prop} (hv : binK op k p k' q Kv) (ty : TypeId) : ∃ r, Kv r ∧ ∀ w, (binOp op ty (.int k p) (.int k' q)).run P w = .ok r w := by
  cases op <;> simp only [binK] at hv
  case shl => obtain ⟨h0, h1, hk⟩ := hv; exact ⟨_, hk, fun w => by show (Op.shift .shl k p k' q).run P w = _; rw [shift_shl k k' p q h0 h1]; rfl⟩
  case shr => obtain ⟨h0, h1, hk⟩ := hv; exact ⟨_, hk, fun w => by show (Op.shift .shr k p k' q).run P w = _; rw [shift_shr k k' p q h0 h1]; rfl⟩
  case quo => obtain ⟨rfl, h1, hk⟩ := hv; exact ⟨_, hk, fun w => by simp [binOp, Op.intDiv, h1]⟩
  case rem => obtain ⟨rfl, h1, hk⟩ := hv; exact ⟨_, hk, fun w => by simp [binOp, Op.intDiv, h1]⟩
  all_goals (obtain ⟨rfl, hk⟩ := hv; exact ⟨_, hk, fun w => by simp [binOp, Op.intArith, Op.intCmp, intBits_and, intBits_or, intBits_xor]⟩)
theorem vcp_bin {op : BinOp} {ty ty' : TypeId} {x y : Operand} (ho : o.op = .binOp op ty x y ty') (hv : vcp (.bin op x y) t K) (hd : DL (SV.den ρ) t a.tmps.toList) : ∃ sv v, K sv ∧ sv.den ρ v ∧ Run P a o v := by
  simp only [vcp] at hv
  have hx := ev_den hd x
  have hy := ev_den hd y
  split at hv
  · rename_i k p he
    rw [he] at hx
    have hx : a.eval x = .int k p := hx
    split at hv
    · rename_i k' q he'
      rw [he'] at hy
      have hy : a.eval y = .int k' q := hy
      obtain ⟨r, hr, hrun⟩ := binK_run (P := P) hv ty
      exact ⟨_, _, hr, rfl, fun w => by unfold execOp; simp only [ho]; exact run_v (by rw [hx, hy, Sem.run_bind, run_eqGuard_int, Result.andThen_ok]; exact hrun w)⟩
    · exact hv.elim
  · exact hv.elim
theorem run_equal_bool {ty : TypeId} (h : P.underlying ty = some .bool) (p q : Bool) (w : World) : (Op.equal ty (.bool p) (.bool q)).run P w = .ok (p == q) w := by
  have : ∀ d, (Op.equalIn (d + 1) ty (.bool p) (.bool q)).run P w = .ok (p == q) w := fun d => by
    unfold Op.equalIn
    rw [Sem.run_bind, run_underlying h]
    rfl
  exact this 9999
theorem run_equal_nil {ty e : TypeId} (h : P.underlying ty = some (.slice e)) (A : Option Addr) (n c n' c' : Nat) (w : World) : (Op.equal ty (.slice A n c) (.slice none n' c')).run P w = .ok A.isNone w := by
  have : ∀ d, (Op.equalIn (d + 1) ty (.slice A n c) (.slice none n' c')).run P w = .ok A.isNone w := fun d => by
    unfold Op.equalIn
    rw [Sem.run_bind, run_underlying h]
    cases A <;> rfl
  exact this 9999
theorem vcp_eqb {neg : Bool} {ty ty' : TypeId} {x y : Operand} (ho : o.op = .binOp (if neg then .neq else .eql) ty x y ty') (ht : isBool P ty = true) (hv : vcp (.eqb neg x y) t K) (hd : DL (SV.den ρ) t a.tmps.toList) : ∃ sv v, K sv ∧ sv.den ρ v ∧ Run P a o v := by
  simp only [vcp] at hv
  have hx := ev_den hd x
  have hy := ev_den hd y
  split at hv
  · rename_i p he
    rw [he] at hx
    have hx : a.eval x = .bool p := hx
    split at hv
    · rename_i q he'
      rw [he'] at hy
      have hy : a.eval y = .bool q := hy
      refine ⟨_, _, hv, rfl, fun w => ?_⟩
      unfold execOp
      simp only [ho]
      refine run_v ?_
      rw [hx, hy]
      have hb : ∀ w, (binOp .eql ty (.bool p) (.bool q)).run P w = .ok (.bool (p == q)) w := fun w => by
        show ((do pure (.bool (← Op.equal ty (.bool p) (.bool q)))) : Sem Value).run P w = _
        rw [Sem.run_bind, run_equal_bool (isBool_spec ht)]; rfl
      have hb' : ∀ w, (binOp .neq ty (.bool p) (.bool q)).run P w = .ok (.bool (p != q)) w := fun w => by
        show ((do pure (.bool (!(← Op.equal ty (.bool p) (.bool q))))) : Sem Value).run P w = _
        rw [Sem.run_bind, run_equal_bool (isBool_spec ht)]; rfl
      cases neg
      · show ((do eqGuard .eql ty x y (.bool p) (.bool q); binOp .eql ty (.bool p) (.bool q)) : Sem Value).run P w = _
        rw [Sem.run_bind, show (eqGuard .eql ty x y (.bool p) (.bool q)).run P w = .ok () w from rfl, Result.andThen_ok, hb]; rfl
      · show ((do eqGuard .neq ty x y (.bool p) (.bool q); binOp .neq ty (.bool p) (.bool q)) : Sem Value).run P w = _
        rw [Sem.run_bind, show (eqGuard .neq ty x y (.bool p) (.bool q)).run P w = .ok () w from rfl, Result.andThen_ok, hb']; rfl
    · exact hv.elim
  · exact hv.elim
theorem isNilC_spec {y : Operand} (h : isNilC y = true) : ∃ n c, a.eval y = .slice none n c := by
  unfold isNilC at h
  split at h
  · rename_i n c; exact ⟨n, c, rfl⟩
  · cases h
theorem vcp_isn {neg : Bool} {ty ty' e : TypeId} {x y : Operand} (ho : o.op = .binOp (if neg then .neq else .eql) ty x y ty') (ht : isSlice P ty = some e) (hy : isNilC y = true) (hv : vcp (.isn neg x) t K) (hd : DL (SV.den ρ) t a.tmps.toList) : ∃ sv v, K sv ∧ sv.den ρ v ∧ Run P a o v := by
  simp only [vcp] at hv
  have hx := ev_den hd x
  obtain ⟨n', c', hy⟩ := isNilC_spec (a := a) hy
  split at hv
  · rename_i A n c he
    rw [he] at hx
    have hx : a.eval x = .slice A n c := hx
    refine ⟨_, _, hv, rfl, fun w => ?_⟩
    unfold execOp
    simp only [ho]
    refine run_v ?_
    rw [hx, hy]
    have hb : ∀ w, (binOp .eql ty (.slice A n c) (.slice none n' c')).run P w = .ok (.bool A.isNone) w := fun w => by
      show ((do pure (.bool (← Op.equal ty (.slice A n c) (.slice none n' c')))) : Sem Value).run P w = _
      rw [Sem.run_bind, run_equal_nil (isSlice_spec ht)]; rfl
    have hb' : ∀ w, (binOp .neq ty (.slice A n c) (.slice none n' c')).run P w = .ok (.bool A.isSome) w := fun w => by
      show ((do pure (.bool (!(← Op.equal ty (.slice A n c) (.slice none n' c'))))) : Sem Value).run P w = _
      rw [Sem.run_bind, run_equal_nil (isSlice_spec ht)]; cases A <;> rfl
    cases neg
    · show ((do eqGuard .eql ty x y (.slice A n c) (.slice none n' c'); binOp .eql ty (.slice A n c) (.slice none n' c')) : Sem Value).run P w = _
      rw [Sem.run_bind, show (eqGuard .eql ty x y (.slice A n c) (.slice none n' c')).run P w = .ok () w from rfl, Result.andThen_ok, hb]; rfl
    · show ((do eqGuard .neq ty x y (.slice A n c) (.slice none n' c'); binOp .neq ty (.slice A n c) (.slice none n' c')) : Sem Value).run P w = _
      rw [Sem.run_bind, show (eqGuard .neq ty x y (.slice A n c) (.slice none n' c')).run P w = .ok () w from rfl, Result.andThen_ok, hb']; rfl
  · exact hv.elim
theorem vcp_not {ty : TypeId} {x : Operand} (ho : o.op = .unOp .not ty x) (hv : vcp (.not x) t K) (hd : DL (SV.den ρ) t a.tmps.toList) : ∃ sv v, K sv ∧ sv.den ρ v ∧ Run P a o v := by
  simp only [vcp] at hv
  have hx := ev_den hd x
  split at hv
  · rename_i p he
    rw [he] at hx
    have hx : a.eval x = .bool p := hx
    exact ⟨_, _, hv, rfl, fun w => by unfold execOp; simp [ho, hx, Op.unary]⟩
  · exact hv.elim
theorem vcp_cvi {s d : TypeId} {k k' : IntKind} {x : Operand} (ho : o.op = .convert s d x) (hs : isInt P s = some k') (hk : isInt P d = some k) (hv : vcp (.cvi k x) t K) (hd : DL (SV.den ρ) t a.tmps.toList) : ∃ sv v, K sv ∧ sv.den ρ v ∧ Run P a o v := by
  simp only [vcp] at hv
  have hx := ev_den hd x
  split at hv
  · rename_i kk p he
    rw [he] at hx
    have hx : a.eval x = .int kk p := hx
    exact ⟨_, _, hv, rfl, fun w => by unfold execOp; simp [ho, hx, convert, run_underlying (isInt_spec hs), run_underlying (isInt_spec hk), Conv.intToInt]⟩
  · exact hv.elim
theorem vcp_len {c : Call} {ty : TypeId} {x : Operand} (ho : o.op = .call c) (hc : c.callee = .builtin .len) (ha : c.args.toList = [x]) (hat : c.argTypes.toList = [ty]) (hs : (isSlice P ty).isSome = true) (hv : vcp (.len x) t K) (hd : DL (SV.den ρ) t a.tmps.toList) : ∃ sv v, K sv ∧ sv.den ρ v ∧ Run P a o v := by
  obtain ⟨e, he'⟩ := Option.isSome_iff_exists.1 hs
  have ha' : c.args = #[x] := by rw [← ha]
  have hat' : c.argTypes = #[ty] := by rw [← hat]
  have hrun : ∀ A n cc, a.eval x = .slice A n cc → Run P a o (.int .i64 n) := fun A n cc h w => by
    unfold execOp
    simp [ho, resolve, hc, ha', hat', invoke, builtin, h, Builtin.len_, run_underlying (isSlice_spec he'), goInt]
  simp only [vcp] at hv
  have hx := ev_den hd x
  split at hv
  · rename_i A n cc he
    rw [he] at hx
    exact ⟨_, _, hv, rfl, hrun _ _ _ hx⟩
  · rename_i k j n cc he
    rw [he] at hx
    obtain ⟨b, h1, h2⟩ := hx
    exact ⟨_, _, hv, rfl, hrun _ _ _ h2⟩
  · exact hv.elim
theorem vcp_mn {c : Call} {x y : Operand} (ho : o.op = .call c) (hc : c.callee = .builtin .min) (ha : c.args.toList = [x, y]) (hv : vcp (.mn x y) t K) (hd : DL (SV.den ρ) t a.tmps.toList) : ∃ sv v, K sv ∧ sv.den ρ v ∧ Run P a o v := by
  have ha' : c.args = #[x, y] := by rw [← ha]
  simp only [vcp] at hv
  have hx := ev_den hd x
  have hy := ev_den hd y
  split at hv
  · rename_i k p he
    rw [he] at hx
    have hx : a.eval x = .int k p := hx
    split at hv
    · rename_i k' q he'
      rw [he'] at hy
      have hy : a.eval y = .int k' q := hy
      refine ⟨_, _, hv, rfl, fun w => ?_⟩
      unfold execOp
      simp [ho, resolve, hc, ha', invoke, builtin, hx, hy, Builtin.min_, Builtin.min2]
    · exact hv.elim
  · exact hv.elim
theorem vcp_mx {c : Call} {x y : Operand} (ho : o.op = .call c) (hc : c.callee = .builtin .max) (ha : c.args.toList = [x, y]) (hv : vcp (.mx x y) t K) (hd : DL (SV.den ρ) t a.tmps.toList) : ∃ sv v, K sv ∧ sv.den ρ v ∧ Run P a o v := by
  have ha' : c.args = #[x, y] := by rw [← ha]
  simp only [vcp] at hv
  have hx := ev_den hd x
  have hy := ev_den hd y
  split at hv
  · rename_i k p he
    rw [he] at hx
    have hx : a.eval x = .int k p := hx
    split at hv
    · rename_i k' q he'
      rw [he'] at hy
      have hy : a.eval y = .int k' q := hy
      refine ⟨_, _, hv, rfl, fun w => ?_⟩
      unfold execOp
      simp [ho, resolve, hc, ha', invoke, builtin, hx, hy, Builtin.max_, Builtin.max2]
    · exact hv.elim
  · exact hv.elim
end
end
end Go.Proofs.YtpjaidjnamngaaaGreat
namespace Go.Proofs.YtpjaidjnamngaaaGreat
set_option linter.unusedVariables false
set_option linter.unusedSimpArgs false
open Go.RowKit
/-! Filling. -/
def putV (cs : List Value) (o : Nat) (ds : List Value) : List Value := cs.take o ++ (ds ++ cs.drop (o + ds.length))
theorem putAt_den {ρ : Nm} {cs ds : List SC} {vs us : List Value} (h : DL (SC.den ρ) cs vs) (k : DL (SC.den ρ) ds us) (o : Nat) : DL (SC.den ρ) (putAt cs o ds) (putV vs o us) := by
  unfold putAt putV
  rw [k.length]
  exact (h.take o).append (k.append (h.drop _))
theorem fold_put (off : Nat) : ∀ (l : List Value) (k : Nat) (cells : Array Value), off + k + l.length ≤ cells.size →
    ((l.zipIdx k).foldl (fun cs x => cs.setIfInBounds (off + x.2) x.1) cells).toList = cells.toList.take (off + k) ++ (l ++ cells.toList.drop (off + k + l.length))
  | [], k, cells, _ => by simp
  | v :: l, k, cells, h => by
    simp only [List.length_cons] at h
    rw [List.zipIdx_cons, List.foldl_cons, fold_put off l (k + 1) _ (by simp; omega)]
    simp only [Array.toList_setIfInBounds]
    have ho : off + k < cells.toList.length := by simp; omega
    rw [List.drop_set_of_lt (by omega)]
    have e1 : (cells.toList.set (off + k) v).take (off + (k + 1)) = cells.toList.take (off + k) ++ [v] := by
      rw [show off + (k + 1) = off + k + 1 by omega, List.take_add_one, List.take_set_of_le (by omega)]
      rw [List.getElem?_set_self (by simpa using ho)]; rfl
    rw [e1]
    simp only [List.append_assoc, List.cons_append, List.nil_append, List.length_cons]
    congr 4
    omega
theorem fill_put (off : Nat) (v : Value) (cells : Array Value) (h : off + v.cells.size ≤ cells.size) :
    (v.cells.zipIdx.foldl (fun cs x => cs.setIfInBounds (off + x.2) x.1) cells).toList = putV cells.toList off v.cells.toList := by
  have := fold_put off v.cells.toList 0 cells (by simpa using h)
  rw [← Array.foldl_toList, Array.toList_zipIdx, this]
  simp [putV]
theorem cellsOf_den {ρ : Nm} {sv : SV} {ds : List SC} {u : Value} (h : cellsOf sv = some ds) (hd : sv.den ρ u) (h1 : ds.all SC.one = true) : DL (SC.den ρ) ds u.cells.toList ∧ u.cells.all (·.oneCell') = true := by
  have hone : ∀ {x : SC} {v : Value}, x.den ρ v → SC.one x = true → v.oneCell' = true := fun {x v} hx ho => by
    cases x with
    | v y => rw [show v = y from hx]; exact ho
    | p k o => obtain ⟨b, _, rfl⟩ := hx; rfl
    | s k o n c => obtain ⟨b, _, rfl⟩ := hx; rfl
    | f A o => obtain ⟨b, o', _, rfl⟩ := hx; rfl
  cases sv with
  | any => cases h
  | t xs => cases h
  | c x =>
    injection h with h
    subst h
    have h1' : SC.one x = true := by simpa using h1
    have hv := hone hd h1'
    have hc : u.cells = #[u] := by cases u <;> first | rfl | (simp [Value.oneCell'] at hv)
    rw [hc]
    exact ⟨⟨hd, trivial⟩, by simp [hv]⟩
  | a xs =>
    injection h with h
    subst h
    obtain ⟨vs, hvs, rfl⟩ := hd
    refine ⟨by simpa [Value.cells] using hvs, ?_⟩
    simp only [Value.cells]
    rw [Array.all_eq_true_iff_forall_mem]
    intro v hv
    obtain ⟨i, hi⟩ := List.getElem?_of_mem (by simpa using hv)
    obtain ⟨x, hx, hxd⟩ := hvs.get' hi
    exact hone hxd (List.all_eq_true.1 h1 x (List.mem_of_getElem? hx))
section
variable {P : Program} {a : Act} {o : Oper} {ρ : Nm} {t : List SV}
theorem places_spec {fs : Array Field} : ∀ {parts : List (Nat × Operand)} {ps : List (Nat × Nat × Operand)}, placesOf P fs parts = some ps →
    ∀ {pl : Nat → Option (Nat × Nat)}, (∀ i f sz agg, fs[i]? = some f → szOf P f.type = some (sz, agg) → pl i = some (f.offset, sz)) →
    ∀ {cs : List SC} {K : List SC → Prop} (cells : Array Value), fillS t ps cs K → DL (SV.den ρ) t a.tmps.toList → DL (SC.den ρ) cs cells.toList →
    ∃ cs' cells', K cs' ∧ Instr.fill pl cells (parts.map fun x => (x.1, a.eval x.2)) = some cells' ∧ DL (SC.den ρ) cs' cells'.toList
  | [], ps, h, pl, hpl, cs, K, cells, hf, hd, hc => by
    injection h with h
    subst h
    exact ⟨cs, cells, hf, rfl, hc⟩
  | (i, x) :: r, ps, h, pl, hpl, cs, K, cells, hf, hd, hc => by
    unfold placesOf at h
    split at h
    · rename_i f hfi
      split at h
      · rename_i sz agg r' hsz hr
        injection h with h
        subst h
        unfold fillS at hf
        split at hf
        · rename_i ds hds
          obtain ⟨⟨h1, h2, h3⟩, hf⟩ := hf
          obtain ⟨k1, k2⟩ := cellsOf_den hds (ev_den hd x) h1
          have hl : (a.eval x).cells.size = ds.length := by rw [k1.length]; simp
          have hcl : cells.size = cs.length := by rw [hc.length]; simp
          have hfit : f.offset + (a.eval x).cells.size ≤ cells.size := by omega
          obtain ⟨cs', cells', g1, g2, g3⟩ := places_spec hr hpl ((a.eval x).cells.zipIdx.foldl (fun cs x => cs.setIfInBounds (f.offset + x.2) x.1) cells) hf hd (by rw [fill_put _ _ _ hfit]; exact putAt_den hc k1 _)
          refine ⟨cs', cells', g1, ?_, g3⟩
          rw [List.map_cons]
          unfold Instr.fill
          rw [hpl i f sz agg hfi hsz]
          simp only
          rw [if_neg (by simp; omega)]
          exact g2
        · exact hf.elim
      · cases h
    · cases h
theorem run_mapM {α β : Type} (g : α → Sem β) (h : α → β) : ∀ (l : List α) (w : World), (∀ x ∈ l, ∀ w, (g x).run P w = .ok (h x) w) → (l.mapM g).run P w = .ok (l.map h) w
  | [], w, _ => by simp
  | x :: l, w, hx => by
    rw [List.mapM_cons, Sem.run_bind, hx x (by simp)]
    simp only [Result.andThen_ok, Sem.run_bind, run_mapM g h l w (fun y hy => hx y (by simp [hy])), Sem.run_pure, List.map_cons]
theorem vcp_bld {ty : TypeId} {parts : Array (Nat × Operand)} {fs : Array Field} {z : List Value} {ps : List (Nat × Nat × Operand)} {K : SV → Prop} (ho : o.op = .build ty parts) (hs : fields P ty = some fs) (hz : zeroOf P ty = some z) (hall : fs.all (fun f => (szOf P f.type).isSome) = true) (hp : placesOf P fs parts.toList = some ps)
    (hv : vcp (.bld z ps) t K) (hd : DL (SV.den ρ) t a.tmps.toList) : ∃ sv v, K sv ∧ sv.den ρ v ∧ Run P a o v := by
  simp only [vcp] at hv
  obtain ⟨zv, hzr, rfl⟩ := zeroOf_spec hz
  let sz : Field → Nat := fun f => ((szOf P f.type).map (·.1)).getD 0
  have hmap : ∀ w, (fs.mapM fun (f : Field) => do pure (f.offset, ← sizeOf f.type)).run P w = .ok (fs.map fun f => (f.offset, sz f)) w := fun w => by
    rw [Array.mapM_eq_mapM_toList, Sem.run_map, run_mapM _ (fun f => (f.offset, sz f)) _ w]
    · simp only [Result.andThen_ok]; rw [← Array.toList_map, Array.toArray_toList]
    · intro f hf w
      have h1 := (Array.all_eq_true_iff_forall_mem.1 hall) f (by simpa using hf)
      obtain ⟨⟨n, agg⟩, h1⟩ := Option.isSome_iff_exists.1 h1
      simp [Sem.run_bind, (szOf_spec h1).1 w, sz, h1]
  obtain ⟨cs', cells', g1, g2, g3⟩ := places_spec (a := a) (ρ := ρ) hp (pl := fun i => (fs.map fun f => (f.offset, sz f))[i]?) (fun i f n agg hf hn => by simp [hf, sz, hn]) zv.cells hv hd (by simpa using den_vs ρ zv.cells.toList)
  refine ⟨_, _, g1, ⟨_, g3, rfl⟩, fun w => ?_⟩
  unfold execOp
  simp only [ho]
  refine run_v ?_
  unfold Instr.build
  have hl : (Array.map (fun x : Nat × Operand => (x.1, a.eval x.2)) parts).toList = parts.toList.map fun x => (x.1, a.eval x.2) := by simp
  simp only [Sem.run_bind, hzr w, Result.andThen_ok, run_underlying (fields_spec hs), hmap w, hl, g2, Sem.run_pure, Array.toArray_toList]
theorem fillB_spec {sz : Nat} : ∀ {parts : List (Nat × Operand)} {cs : List SC} {K : List SC → Prop} (cells : Array Value), fillB t sz parts cs K → DL (SV.den ρ) t a.tmps.toList → DL (SC.den ρ) cs cells.toList →
    ∃ cs' cells', K cs' ∧ Instr.fill (fun i => some (i * sz, sz)) cells (parts.map fun x => (x.1, a.eval x.2)) = some cells' ∧ DL (SC.den ρ) cs' cells'.toList
  | [], cs, K, cells, hf, hd, hc => ⟨cs, cells, hf, rfl, hc⟩
  | (i, x) :: r, cs, K, cells, hf, hd, hc => by
    unfold fillB at hf
    split at hf
    · rename_i ds hds
      obtain ⟨⟨h1, h2, h3⟩, hf⟩ := hf
      obtain ⟨k1, k2⟩ := cellsOf_den hds (ev_den hd x) h1
      have hl : (a.eval x).cells.size = ds.length := by rw [k1.length]; simp
      have hcl : cells.size = cs.length := by rw [hc.length]; simp
      have hfit : i * sz + (a.eval x).cells.size ≤ cells.size := by omega
      obtain ⟨cs', cells', g1, g2, g3⟩ := fillB_spec ((a.eval x).cells.zipIdx.foldl (fun cs x => cs.setIfInBounds (i * sz + x.2) x.1) cells) hf hd (by rw [fill_put _ _ _ hfit]; exact putAt_den hc k1 _)
      refine ⟨cs', cells', g1, ?_, g3⟩
      rw [List.map_cons]
      unfold Instr.fill
      simp only
      rw [if_neg (by simp; omega)]
      exact g2
    · exact hf.elim
theorem repl_vals (ρ : Nm) (z : List Value) (m : Nat) (hm : z.length = m) (h0 : 0 < m) : ∀ n, DL (SC.den ρ) (repl z n) ((List.range (n * m)).map fun i => z.toArray[i % m]!)
  | 0 => by simp [repl, DL]
  | n + 1 => by
    rw [show (n + 1) * m = m + n * m by rw [Nat.add_mul]; omega, List.range_add, List.map_append, List.map_map]
    refine DL.append ?_ ?_
    · have : (List.range m).map (fun i => z.toArray[i % m]!) = z := by
        apply List.ext_getElem?
        intro i
        by_cases hi : i < m
        · simp [hi, Nat.mod_eq_of_lt hi, hm]
        · simp [List.getElem?_eq_none (show z.length ≤ i by omega), List.getElem?_eq_none (show ((List.range m).map (fun i => z.toArray[i % m]!)).length ≤ i by simp; omega)]; try omega
      rw [this]; exact den_vs ρ z
    · have : ((fun i => z.toArray[i % m]!) ∘ fun x => m + x) = fun i => z.toArray[i % m]! := by
        funext i; simp
      rw [this]; exact repl_vals ρ z m hm h0 n
/-! Reading. -/
theorem run_loadAt {ty : TypeId} {sz : Nat} {agg : Bool} (h : szOf P ty = some (sz, agg)) {w : World} {b o : Nat} {vs : List Value} (hr : w.rangeAt b o vs) (hl : vs.length = sz) (v : Value) (hv : if agg then v = .agg vs.toArray else vs[0]? = some v) :
    (Instr.loadAt ty (.pointer (some ⟨b, o, none⟩))).run P w = .ok v w := by
  obtain ⟨h1, h2, h3, d, h4, h5⟩ := szOf_spec h
  cases agg with
  | true =>
    simp only [if_true] at hv
    rw [hv]
    exact run_loadAt_mid w b o ty vs d hr h4 h5 (by rw [h3, hl])
  | false =>
    simp only [Bool.false_eq_true, if_false] at hv
    have := hr 0 v hv
    simp only [Nat.add_zero] at this
    unfold Instr.loadAt Instr.sureAddr loadVar
    simp [Sem.run_bind, h2 w, this]
theorem rangeAt_row {w : World} {b : Nat} {vs : List Value} {e : TypeId} (h : w.heap[b]? = some (.cells vs.toArray e (0, 0))) (o n : Nat) : w.rangeAt b o ((vs.drop o).take n) := fun j v hv => by
  rw [cell_of_row _ _ _ _ _ _ h]
  have hj : j < n := by have := (List.getElem?_eq_some_iff.1 hv).1; simp at this; omega
  rw [List.getElem?_take_of_lt hj, List.getElem?_drop] at hv
  simpa using hv
theorem run_loadAt_one {ty : TypeId} {sz : Nat} (h : szOf P ty = some (sz, false)) {w : World} {b o : Nat} {v : Value} (hc : w.cell? ⟨b, o, none⟩ = some v) : (Instr.loadAt ty (.pointer (some ⟨b, o, none⟩))).run P w = .ok v w := by
  unfold Instr.loadAt Instr.sureAddr loadVar
  simp [Sem.run_bind, (szOf_spec h).2.1 w, hc]
theorem rangeAt_same {w w' : World} {b o : Nat} {vs : List Value} (h : w.rangeAt b o vs) (e : w'.heap[b]? = w.heap[b]?) : w'.rangeAt b o vs := fun j v hv => (cell_same e).trans (h j v hv)
/-- What is read: in each world where the block is as it stands here. -/
theorem vcl_spec {C : Ctx} {L : Ents} {z : Zc} {w : World} {ty : TypeId} {x : Operand} {sz : Nat} {agg : Bool} {t : List SV} {K : SV → Prop} {R : Option Addr → Nat → List Value → Prop} {G : Nat → Prop} (hR : ∀ A o vs, vs ≠ [] → R A o vs → ∃ b o', A = some ⟨b, o', none⟩ ∧ G b ∧ w.rangeAt b (o' + o) vs) (hv : vcl x (sz + 1) agg t L R K) (h : szOf P ty = some (sz + 1, agg)) (hd : DL (SV.den ρ) t a.tmps.toList) (hm : Mem C ρ z L w) :
    ∃ sv v b, K sv ∧ sv.den ρ v ∧ (G b ∨ ∃ k e cs, look k L = some (.cells e cs) ∧ ρ[k]? = some b) ∧ ∀ w', w'.heap[b]? = w.heap[b]? → (Instr.loadAt ty (a.eval x)).run P w' = .ok v w' := by
  unfold vcl at hv
  have hx := ev_den hd x
  split at hv
  · rename_i k o he
    rw [he] at hx
    obtain ⟨b, hb, hxv⟩ := hx
    split at hv
    · rename_i e cs hk
      obtain ⟨hle, hv⟩ := hv
      obtain ⟨b', vs, h1, h2, h3⟩ := hm.cells hk
      rw [hb] at h1
      injection h1 with h1
      subst h1
      have hlen := h2.length
      cases agg with
      | true =>
        refine ⟨_, .agg ((vs.drop o).take (sz + 1)).toArray, b, hv, ⟨_, (h2.drop o).take (sz + 1), rfl⟩, .inr ⟨k, e, cs, hk, hb⟩, fun w' e' => ?_⟩
        rw [hxv]
        exact run_loadAt h (rangeAt_same (rangeAt_row h3 o (sz + 1)) e') (by simp; omega) _ rfl
      | false =>
        simp only [Bool.false_eq_true, if_false] at hv
        split at hv
        · rename_i y hy
          obtain ⟨u, hu, hden⟩ := h2.get hy
          refine ⟨_, u, b, hv, hden, .inr ⟨k, e, cs, hk, hb⟩, fun w' e' => ?_⟩
          rw [hxv]
          refine run_loadAt_one h ?_
          rw [cell_same e', cell_of_row _ _ _ _ _ _ h3]
          simpa using hu
        · exact hv.elim
    · exact hv.elim
  · rename_i A o he
    rw [he] at hx
    obtain ⟨b, o', rfl, hxv⟩ := hx
    cases agg with
    | true =>
      simp only [if_true] at hv
      obtain ⟨vs, hl, hr, hk⟩ := hv
      obtain ⟨b1, o1, e, hz, hc⟩ := hR _ _ _ (by intro e; simp [e] at hl) hr
      injection e with e
      injection e with e1 e2 _
      subst e1; subst e2
      refine ⟨_, .agg vs.toArray, b, hk, ⟨vs, den_vs ρ vs, rfl⟩, .inl hz, fun w' e' => ?_⟩
      rw [hxv]
      exact run_loadAt h (rangeAt_same hc e') hl _ rfl
    | false =>
      simp only [Bool.false_eq_true, if_false] at hv
      obtain ⟨v, hr, hk⟩ := hv
      obtain ⟨b1, o1, e, hz, hc⟩ := hR _ _ _ (by simp) hr
      injection e with e
      injection e with e1 e2 _
      subst e1; subst e2
      refine ⟨_, v, b, hk, rfl, .inl hz, fun w' e' => ?_⟩
      rw [hxv]
      refine run_loadAt_one h ?_
      rw [cell_same e']
      have := hc 0 v rfl
      simpa using this
  · exact hv.elim
end
end Go.Proofs.YtpjaidjnamngaaaGreat
namespace Go.Proofs.YtpjaidjnamngaaaGreat
set_option linter.unusedVariables false
set_option linter.unusedSimpArgs false
open Go.RowKit
section
variable {P : Program} {a : Act} {o : Oper} {ρ : Nm} {t : List SV} {K : SV → Prop}
theorem trCall_cases {c : Call} {i : IOp} (h : trCall P c = i) : (∃ x ty, i = .len x ∧ c.callee = .builtin .len ∧ c.args.toList = [x] ∧ c.argTypes.toList = [ty] ∧ (isSlice P ty).isSome = true) ∨ (∃ x y, i = .mn x y ∧ c.callee = .builtin .min ∧ c.args.toList = [x, y]) ∨ (∃ x y, i = .mx x y ∧ c.callee = .builtin .max ∧ c.args.toList = [x, y]) ∨
    (∃ s x ty, i = .app ty s x ∧ c.callee = .builtin .append ∧ c.args.toList = [s, x] ∧ c.argTypes.toList = [ty, ty]) ∨ (∃ f fn, i = .call f c.args.toList ∧ c.callee = .value (.func f) ∧ P.funcs[f]? = some fn ∧ fn.body.isSome = true ∧ (fn.name == "runtime.NumGoroutine") = false) ∨ i = .oth (.call c) := by
  unfold trCall at h
  split at h
  · rename_i hc
    split at h
    · rename_i x ty hx hty
      split at h
      · rename_i hs; exact .inl ⟨x, ty, h.symm, hc, hx, hty, hs⟩
      · simp [h.symm]
    · simp [h.symm]
  · rename_i hc
    split at h
    · rename_i x y hx; exact .inr (.inl ⟨x, y, h.symm, hc, hx⟩)
    · simp [h.symm]
  · rename_i hc
    split at h
    · rename_i x y hx; exact .inr (.inr (.inl ⟨x, y, h.symm, hc, hx⟩))
    · simp [h.symm]
  · rename_i hc
    split at h
    · rename_i s x ty ty' hx hty
      split at h
      · rename_i he
        have he : ty = ty' := by simpa using he
        subst he
        exact .inr (.inr (.inr (.inl ⟨s, x, ty, h.symm, hc, hx, hty⟩)))
      · simp [h.symm]
    · simp [h.symm]
  · rename_i f hc
    split at h
    · rename_i fn hf
      split at h
      · rename_i hb
        simp only [Bool.and_eq_true, Bool.not_eq_true'] at hb
        exact .inr (.inr (.inr (.inr (.inl ⟨f, fn, h.symm, hc, hf, hb.1, hb.2⟩))))
      · simp [h.symm]
    · simp [h.symm]
  · simp [h.symm]
theorem vcp_sound {i : IOp} (h : tr P o.op = i) (hv : vcp i t K) (hd : DL (SV.den ρ) t a.tmps.toList) : ∃ sv v, K sv ∧ sv.den ρ v ∧ Run P a o v := by
  cases hop : o.op with
  | move x => rw [hop] at h; subst h; exact vcp_mv (.inl hop) hv hd
  | assign x => rw [hop] at h; subst h; exact vcp_mv (.inr hop) hv hd
  | pick c x y => rw [hop] at h; subst h; exact vcp_pick hop hv hd
  | extract x j => rw [hop] at h; subst h; exact vcp_ext hop hv hd
  | nilCheck x => rw [hop] at h; subst h; exact vcp_nil hop hv hd
  | field s x j =>
    rw [hop] at h; simp only [tr] at h
    split at h
    · rename_i fs hfs
      split at h
      · rename_i f hf
        split at h
        · rename_i sz agg hsz; subst h; exact vcp_fld hop hfs hf hsz hv hd
        · subst h; exact hv.elim
      · subst h; exact hv.elim
    · subst h; exact hv.elim
  | fieldAddr s x j =>
    rw [hop] at h; simp only [tr] at h
    split at h
    · rename_i fs hfs
      split at h
      · rename_i f hf
        split at h
        · rename_i sz agg hsz; subst h; exact vcp_fad hop hfs hf hsz hv hd
        · subst h; exact hv.elim
      · subst h; exact hv.elim
    · subst h; exact hv.elim
  | indexAddr s x j =>
    rw [hop] at h; simp only [tr] at h
    split at h
    · rename_i e he
      split at h
      · rename_i sz agg hsz; subst h; exact vcp_iad hop he hsz hv hd
      · subst h; exact hv.elim
    · subst h; exact hv.elim
  | slice s x lo hi mx =>
    rw [hop] at h
    cases mx with
    | some m =>
      cases hi with
      | none => simp only [tr] at h; subst h; exact hv.elim
      | some hi =>
        simp only [tr] at h
        split at h
        · rename_i e he
          split at h
          · rename_i sz agg hsz; subst h; exact vcp_sl3 hop he hsz hv hd
          · subst h; exact hv.elim
        · subst h; exact hv.elim
    | none =>
      simp only [tr] at h
      split at h
      · rename_i e he
        split at h
        · rename_i sz agg hsz; subst h; exact vcp_slc hop he hsz hv hd
        · subst h; exact hv.elim
      · subst h; exact hv.elim
  | binOp op ty x y ty' =>
    rw [hop] at h; simp only [tr] at h
    split at h
    · split at h
      · subst h; exact vcp_bin hop hv hd
      · subst h; exact hv.elim
    · split at h
      · rename_i hb
        split at h
        · subst h; exact vcp_eqb (neg := false) hop hb hv hd
        · subst h; exact vcp_eqb (neg := true) hop hb hv hd
        · subst h; exact hv.elim
      · split at h
        · rename_i hb
          simp only [Bool.and_eq_true] at hb
          obtain ⟨e, he⟩ := Option.isSome_iff_exists.1 hb.1
          split at h
          · subst h; exact vcp_isn (neg := false) hop he hb.2 hv hd
          · subst h; exact vcp_isn (neg := true) hop he hb.2 hv hd
          · subst h; exact hv.elim
        · subst h; exact hv.elim
  | unOp op ty x =>
    rw [hop] at h
    cases op <;> simp only [tr] at h <;> subst h <;> first | exact vcp_not hop hv hd | exact hv.elim
  | convert s d x =>
    rw [hop] at h; simp only [tr] at h
    split at h
    · rename_i k' k hs hk; subst h; exact vcp_cvi hop hs hk hv hd
    · subst h; exact hv.elim
  | build ty parts =>
    rw [hop] at h; simp only [tr] at h
    split at h
    · rename_i fs z hfs hz
      split at h
      · rename_i ps hps
        split at h
        · rename_i hall; subst h; exact vcp_bld hop hfs hz hall hps hv hd
        · subst h; exact hv.elim
      · subst h; exact hv.elim
    · subst h; exact hv.elim
  | load ty x => rw [hop] at h; simp only [tr] at h; split at h <;> subst h <;> exact hv.elim
  | alloc ty => rw [hop] at h; simp only [tr] at h; split at h <;> subst h <;> exact hv.elim
  | box ty x => rw [hop] at h; subst h; exact hv.elim
  | buildSlice ty n ps =>
    rw [hop] at h; simp only [tr] at h
    split at h
    · split at h
      · split at h <;> subst h <;> exact hv.elim
      · subst h; exact hv.elim
    · subst h; exact hv.elim
  | store ty x y => rw [hop] at h; simp only [tr] at h; split at h <;> subst h <;> exact hv.elim
  | call c =>
    rw [hop] at h
    rcases trCall_cases (show trCall P c = i from h) with ⟨x, ty, rfl, h1, h2, h3, h4⟩ | ⟨x, y, rfl, h1, h2⟩ | ⟨x, y, rfl, h1, h2⟩ | ⟨_, _, _, rfl, _⟩ | ⟨_, _, rfl, _⟩ | rfl
    · exact vcp_len hop h1 h2 h3 h4 hv hd
    · exact vcp_mn hop h1 h2 hv hd
    · exact vcp_mx hop h1 h2 hv hd
    · exact hv.elim
    · exact hv.elim
    · exact hv.elim
  | _ => rw [hop] at h; simp only [tr] at h; subst h; exact hv.elim
end
/-! Steps from a state to the next. -/
/-- The blocks of B are frozen, or held as cells. -/
def Cov (X : List Nat) (B : Nat → Prop) (ρ : Nm) (s : St) : Prop := ∀ b, B b → s.z.In b ∨ ∃ k e cs, look k s.L = some (.cells e cs) ∧ ρ[k]? = some b ∧ k ∉ X
structure Stp (ρ : Nm) (s : St) (w : World) (ρ' : Nm) (s' : St) (w' : World) : Prop where
  pre : ρ <+: ρ'
  zle : s.z ≤ s'.z
  keep : ∀ X B, Cov X B ρ s → (∀ b, B b → w'.heap[b]? = w.heap[b]?) ∧ Cov X B ρ' s'
/-- As it is, but that blocks named in X may turn. -/
structure StpX (X : List Nat) (ρ : Nm) (s : St) (w : World) (ρ' : Nm) (s' : St) (w' : World) : Prop where
  pre : ρ <+: ρ'
  zle : s.z ≤ s'.z
  keep : ∀ B, Cov X B ρ s → (∀ b, B b → w'.heap[b]? = w.heap[b]?) ∧ Cov X B ρ' s'
def opX (X : List Nat) (P : Program) (o : Oper) (s : St) (K : St → Prop) : Prop := ∀ C ρ a w Q, Sat C ρ s a w → o.wp P a w (fun a' w' => ∃ s' ρ', K s' ∧ Sat C ρ' s' a' w' ∧ StpX X ρ s w ρ' s' w') Q
def opM (P : Program) (o : Oper) (s : St) (K : St → Prop) : Prop := ∀ C ρ a w Q, Sat C ρ s a w → o.wp P a w (fun a' w' => ∃ s' ρ', K s' ∧ Sat C ρ' s' a' w' ∧ Stp ρ s w ρ' s' w') Q
def opT (P : Program) (o : Oper) (s : St) (K : St → Prop) : Prop := ∀ C ρ a w Q, Sat C ρ s a w → o.wp P a w (fun a' w' => ∃ s' ρ', K s' ∧ Sat C ρ' s' a' w' ∧ ρ <+: ρ' ∧ s.z ≤ s'.z) Q
theorem opM.toT {P : Program} {o : Oper} {s : St} {K : St → Prop} (h : opM P o s K) : opT P o s K := fun C ρ a w Q hs => Oper.wp_mono (fun a' w' ⟨s', ρ', h1, h2, h3⟩ => ⟨s', ρ', h1, h2, h3.pre, h3.zle⟩) (h C ρ a w Q hs)
theorem opM.toX {X : List Nat} {P : Program} {o : Oper} {s : St} {K : St → Prop} (h : opM P o s K) : opX X P o s K := fun C ρ a w Q hs => Oper.wp_mono (fun a' w' ⟨s', ρ', h1, h2, h3⟩ => ⟨s', ρ', h1, h2, h3.pre, h3.zle, h3.keep X⟩) (h C ρ a w Q hs)
theorem Stp.same {ρ : Nm} {s : St} {w : World} {t : List SV} : Stp ρ s w ρ ⟨t, s.L, s.z, s.n⟩ w := ⟨List.prefix_rfl, Zc.rfl' _, fun X B h => ⟨fun _ _ => rfl, h⟩⟩
theorem look_lt {C : Ctx} {ρ : Nm} {z : Zc} {L : Ents} {w : World} {k : Nat} {e : TypeId} {cs : List SC} (h : Mem C ρ z L w) (hk : look k L = some (.cells e cs)) : k < ρ.length := by
  obtain ⟨b, vs, h1, _⟩ := h.cells hk
  exact (List.getElem?_eq_some_iff.1 h1).1
theorem Cov.old {C : Ctx} {X : List Nat} {ρ : Nm} {s : St} {w : World} {B : Nat → Prop} (h : Cov X B ρ s) (hm : Mem C ρ s.z s.L w) {b : Nat} (hb : B b) : b < w.heap.size := by
  rcases h b hb with h | ⟨k, e, cs, h1, h2, _⟩
  · obtain ⟨F, _, hw⟩ := hm; exact Nat.lt_of_lt_of_le h.2 hw.zsize
  · obtain ⟨b', vs, k1, _, k3⟩ := hm.cells h1
    rw [h2] at k1; injection k1 with k1; subst k1; exact lt_of_heap k3
/-- A new block. -/
theorem Stp.alloc {C : Ctx} {ρ : Nm} {s : St} {w : World} {e : TypeId} {cs : List SC} {vs : List Value} {t : List SV} (hn : ρ.length = s.n) (hm : Mem C ρ s.z s.L w) :
    Stp ρ s w (ρ ++ [w.heap.size]) ⟨t, (s.n, .cells e cs) :: s.L, s.z, s.n + 1⟩ (w.alloc (.cells vs.toArray e)) := by
  refine ⟨List.prefix_append _ _, Zc.rfl' _, fun X B h => ⟨fun b hb => Below.heap_alloc _ _ _ (h.old hm hb), fun b hb => ?_⟩⟩
  rcases h b hb with h | ⟨k, e', cs', h1, h2, hX⟩
  · exact .inl h
  · refine .inr ⟨k, e', cs', ?_, pre_get (List.prefix_append _ _) h2, hX⟩
    have := look_lt hm h1
    show look k ((s.n, _) :: s.L) = _
    unfold look
    rw [if_neg (by omega)]; exact h1
section
variable {P : Program} {o : Oper} {s : St}
theorem Sat.alloc {C : Ctx} {ρ : Nm} {a : Act} {w : World} {e : TypeId} {cs : List SC} {vs : List Value} (h : Sat C ρ s a w) (hc : DL (SC.den ρ) cs vs) (d : Option Tmp) {sv : SV} {v : Value} (hv : sv.den (ρ ++ [w.heap.size]) v) :
    Sat C (ρ ++ [w.heap.size]) ⟨stO s.t d sv, (s.n, .cells e cs) :: s.L, s.z, s.n + 1⟩ (a.put d v) (w.alloc (.cells vs.toArray e)) :=
  ⟨by cases d <;> exact h.df, stO_den (h.fr.mono (fun _ _ => SV.den.ext (List.prefix_append _ _))) d hv, by simp [h.nm], h.nm ▸ h.mem.alloc hc⟩
theorem Sat.put {C : Ctx} {ρ : Nm} {a : Act} {w : World} (h : Sat C ρ s a w) (d : Option Tmp) {sv : SV} {v : Value} (hv : sv.den ρ v) : Sat C ρ ⟨stO s.t d sv, s.L, s.z, s.n⟩ (a.put d v) w :=
  ⟨by cases d <;> exact h.df, stO_den h.fr d hv, h.nm, h.mem⟩
theorem new_p {ρ : Nm} {n b : Nat} (h : ρ.length = n) : SV.den (ρ ++ [b]) (.c (.p n 0)) (.pointer (some ⟨b, 0, none⟩)) := ⟨b, by simp [← h], rfl⟩
theorem wp_value {a : Act} {w w' : World} {v : Value} {N : Act → World → Prop} {Q : Exit → Act → World → Prop} (h : (execOp a.eval o).run P w = .ok (.value v) w') (hn : N (a.put o.dst v) w') : o.wp P a w N Q := by
  unfold Oper.wp; rw [h]; exact hn
theorem wp_skip' {a : Act} {w w' : World} {N : Act → World → Prop} {Q : Exit → Act → World → Prop} (h : (execOp a.eval o).run P w = .ok .skip w') (hn : N (a.put o.dst undef) w') : o.wp P a w N Q := by
  unfold Oper.wp; rw [h]; exact hn
theorem opM_pure {K : St → Prop} (hv : vcp (tr P o.op) s.t fun v => K ⟨stO s.t o.dst v, s.L, s.z, s.n⟩) : opM P o s K := fun C ρ a w Q hs => by
  obtain ⟨sv, v, hk, hden, hrun⟩ := vcp_sound rfl hv hs.fr
  exact wp_value (hrun w) ⟨_, ρ, hk, hs.put o.dst hden, Stp.same⟩
theorem opM_ld {K : St → Prop} {ty : TypeId} {x : Operand} {sz : Nat} {agg : Bool} (ho : o.op = .load ty x) (h : szOf P ty = some (sz + 1, agg)) (hv : vcl x (sz + 1) agg s.t s.L (RdS s.z s.L) fun v => K ⟨stO s.t o.dst v, s.L, s.z, s.n⟩) : opM P o s K := fun C ρ a w Q hs => by
  obtain ⟨sv, v, b, hk, hden, _, hrun⟩ := vcl_spec (G := fun _ => True) (fun A o vs hn hr => (hs.mem.rdS hr hn).imp fun b h => h.imp fun o' h => ⟨h.1, trivial, h.2⟩) hv h hs.fr hs.mem
  refine wp_value ?_ ⟨_, ρ, hk, hs.put o.dst hden, Stp.same⟩
  unfold execOp
  simp only [ho]
  exact run_v (hrun w rfl)
theorem opM_alc {K : St → Prop} {ty : TypeId} {z : List Value} (ho : o.op = .alloc ty) (h : zeroOf P ty = some z) (hv : K ⟨stO s.t o.dst (.c (.p s.n 0)), (s.n, .cells ty (z.map .v)) :: s.L, s.z, s.n + 1⟩) : opM P o s K := fun C ρ a w Q hs => by
  obtain ⟨zv, hz, rfl⟩ := zeroOf_spec h
  refine wp_value (v := .pointer (some ⟨w.heap.size, 0, none⟩)) (w' := w.alloc (.cells zv.cells.toList.toArray ty)) ?_ ⟨_, _, hv, hs.alloc (den_vs ρ _) o.dst (new_p hs.nm), Stp.alloc hs.nm hs.mem⟩
  unfold execOp
  simp only [ho]
  refine run_v ?_
  simp [Instr.alloc, hz w, newVar, newRow]
theorem opM_box {K : St → Prop} {ty : TypeId} {x : Operand} {cs : List SC} (ho : o.op = .box ty x) (hc : cellsOf (ev s.t x) = some cs) (h1 : cs.all SC.one = true) (hv : K ⟨stO s.t o.dst (.c (.p s.n 0)), (s.n, .cells ty cs) :: s.L, s.z, s.n + 1⟩) : opM P o s K := fun C ρ a w Q hs => by
  obtain ⟨k1, k2⟩ := cellsOf_den hc (ev_den hs.fr x) h1
  refine wp_value (v := .pointer (some ⟨w.heap.size, 0, none⟩)) (w' := w.alloc (.cells (a.eval x).cells.toList.toArray ty)) ?_ ⟨_, _, hv, hs.alloc k1 o.dst (new_p hs.nm), Stp.alloc hs.nm hs.mem⟩
  unfold execOp
  simp only [ho]
  refine run_v ?_
  simp [Instr.box, newVar, newRow]
theorem opM_bsl {K : St → Prop} {ty e : TypeId} {sz len : Nat} {agg : Bool} {z : List Value} {ps : Array (Nat × Operand)} (ho : o.op = .buildSlice ty len ps) (hs : isSlice P ty = some e) (hz : szOf P e = some (sz, agg)) (hzz : zeroOf P e = some z) (hb : len * sz ≤ 1000) (hl : z.length = sz)
    (hv : fillB s.t sz ps.toList (repl z len) fun cs => K ⟨stO s.t o.dst (.c (.s s.n 0 len len)), (s.n, .cells e cs) :: s.L, s.z, s.n + 1⟩) : opM P o s K := fun C ρ a w Q hS => by
  obtain ⟨zv, hz0, rfl⟩ := zeroOf_spec hzz
  have hstart : ∃ cells : Array Value, (∀ w, (if len * sz = 0 then pure #[] else do pure (← zeroValue e).cells : Sem (Array Value)).run P w = .ok (if len * sz = 0 then #[] else zv.cells) w) ∧ ((Array.range (len * sz)).map ((if len * sz = 0 then #[] else zv.cells)[· % (if len * sz = 0 then #[] else zv.cells).size]!)) = cells ∧ DL (SC.den ρ) (repl zv.cells.toList len) cells.toList := by
    refine ⟨_, fun w => ?_, rfl, ?_⟩
    · split
      · rfl
      · simp [hz0 w]
    · by_cases h0 : len * sz = 0
      · have : repl zv.cells.toList len = [] := by
          rcases Nat.mul_eq_zero.1 h0 with h | h
          · subst h; rfl
          · have : zv.cells.toList = [] := List.eq_nil_of_length_eq_zero (by omega)
            rw [this]
            clear hv hb h0 ho
            induction len with
            | zero => rfl
            | succ n ih => simp [repl, ih]
        rw [this, h0]; simp [DL]
      · rw [if_neg h0]
        have hp : 0 < sz := Nat.pos_of_ne_zero (fun h => h0 (by rw [h, Nat.mul_zero]))
        have := repl_vals ρ zv.cells.toList sz hl hp len
        have hsz : zv.cells.size = sz := by simpa using hl
        simpa [hsz] using this
  obtain ⟨cells, c1, c2, c3⟩ := hstart
  obtain ⟨cs', cells', g1, g2, g3⟩ := fillB_spec cells hv hS.fr c3
  refine wp_value (v := .slice (some ⟨w.heap.size, 0, none⟩) len len) (w' := w.alloc (.cells cells'.toList.toArray e)) ?_ ⟨_, _, g1, hS.alloc g3 o.dst ⟨w.heap.size, by simp [← hS.nm], rfl⟩, Stp.alloc hS.nm hS.mem⟩
  unfold execOp
  simp only [ho]
  refine run_v ?_
  unfold Instr.buildSlice
  have hl' : (Array.map (fun x : Nat × Operand => (x.1, a.eval x.2)) ps).toList = ps.toList.map fun x => (x.1, a.eval x.2) := by simp
  simp only [Sem.run_bind, run_underlying (isSlice_spec hs), Result.andThen_ok, (szOf_spec hz).1 w, hl']
  rw [if_neg (by omega)]
  by_cases h0 : len * sz = 0
  · rw [if_pos h0]
    simp only [if_pos h0] at c2
    simp only [Sem.run_bind, Sem.run_pure, Result.andThen_ok, c2, g2, newRow, run_newObj, Array.toArray_toList]
    rfl
  · rw [if_neg h0]
    simp only [if_neg h0] at c2
    simp only [Sem.run_bind, hz0 w, Sem.run_pure, Result.andThen_ok, c2, g2, newRow, run_newObj, Array.toArray_toList]
    rfl
theorem run_storeAt {ty : TypeId} {sz : Nat} {agg : Bool} (h : szOf P ty = some (sz, agg)) {w : World} {b o : Nat} {cur : Array Value} {e : TypeId} (hg : w.heap[b]? = some (.cells cur e (0, 0))) {v : Value} (hl : v.cells.size = sz) (h1 : v.cells.all (·.oneCell') = true) (hfit : o + v.cells.size ≤ cur.size) :
    (Instr.storeAt ty (.pointer (some ⟨b, o, none⟩)) v).run P w = .ok () (w.setCells b o v.cells.toList) := by
  have hc : ∀ j, j < v.cells.toList.length → (w.cell? ⟨b, o + j, none⟩).isSome = true := fun j hj => by
    rw [cell_of_row _ _ _ _ _ _ hg]; simp at hj ⊢; omega
  have hf : ∀ j, j < v.cells.toList.length → w.frozen? ⟨b, o + j, none⟩ = false := fun j hj => by
    unfold World.frozen?; simp [hg]
  have := run_storeCells_cells (P := P) b o v.cells.toList 0 w (fun j hj => by simpa using hc j hj) (fun j hj => by simpa using hf j hj) (fun u hu => (Array.all_eq_true_iff_forall_mem.1 h1) u (by simpa using hu))
  simp only [Nat.add_zero] at this
  unfold Instr.storeAt Instr.sureAddr storeVar
  simp [Sem.run_bind, (szOf_spec h).1 w, hl, this]
theorem look_del {k j : Nat} (h : j ≠ k) : ∀ (L : Ents), look j (del k L) = look j L
  | [] => rfl
  | (i, e) :: L => by
    unfold del
    split
    · rename_i hi
      show _ = if i = j then some e else look j L
      rw [if_neg (by omega)]
    · unfold look
      split
      · rfl
      · exact look_del h L
theorem opT_sto {K : St → Prop} {ty : TypeId} {x y : Operand} {sz k off : Nat} {agg : Bool} {e : TypeId} {cs ds : List SC} (ho : o.op = .store ty x y) (h : szOf P ty = some (sz, agg)) (hx : ev s.t x = .c (.p k off)) (hk : look k s.L = some (.cells e cs)) (hd : cellsOf (ev s.t y) = some ds)
    (h1 : ds.all SC.one = true) (h2 : ds.length = sz) (h3 : off + ds.length ≤ cs.length) (hv : K ⟨stO s.t o.dst unS, (k, .cells e (putAt cs off ds)) :: del k s.L, s.z, s.n⟩) : opT P o s K := fun C ρ a w Q hs => by
  have hxd := ev_den hs.fr x
  rw [hx] at hxd
  obtain ⟨b, hb, hxv⟩ := hxd
  obtain ⟨k1, k2⟩ := cellsOf_den hd (ev_den hs.fr y) h1
  obtain ⟨b', vs, g1, g2, g3⟩ := hs.mem.cells hk
  rw [hb] at g1
  injection g1 with g1
  subst g1
  have hl : (a.eval y).cells.size = ds.length := by rw [k1.length]; simp
  have hfit : off + (a.eval y).cells.size ≤ vs.toArray.size := by have := g2.length; simp; omega
  obtain ⟨cur', c1, c2⟩ := setCells_heap b e (a.eval y).cells.toList off w vs.toArray g3 (by simpa using hfit)
  refine wp_skip' (w' := w.setCells b off (a.eval y).cells.toList) ?_ ⟨_, ρ, hv, ⟨by cases o.dst <;> exact hs.df, stO_den hs.fr o.dst rfl, hs.nm, ?_⟩, List.prefix_rfl, Zc.rfl' _⟩
  · unfold execOp
    simp only [ho, hxv]
    simp [run_storeAt h g3 (by omega) k2 hfit]
  · have hcur : cur' = (putV vs off (a.eval y).cells.toList).toArray := by
      apply Array.toList_inj.1
      rw [c2]; simp [putV]
    exact hs.mem.turn hk (putAt_den g2 k1 off) hb (by rw [c1, hcur]) (fun z hz => setCells_other b z hz _ _ _) (setCells_size _ _ _ _) (setCells_os _ _ _ _)
theorem opX_sto {X : List Nat} {K : St → Prop} {ty : TypeId} {x y : Operand} {sz k off : Nat} {agg : Bool} {e : TypeId} {cs ds : List SC} (ho : o.op = .store ty x y) (h : szOf P ty = some (sz, agg)) (hx : ev s.t x = .c (.p k off)) (hk : look k s.L = some (.cells e cs)) (hd : cellsOf (ev s.t y) = some ds)
    (h1 : ds.all SC.one = true) (h2 : ds.length = sz) (h3 : off + ds.length ≤ cs.length) (hv : K ⟨stO s.t o.dst unS, (k, .cells e (putAt cs off ds)) :: del k s.L, s.z, s.n⟩) (hX : k ∈ X) : opX X P o s K := fun C ρ a w Q hs => by
  have hxd := ev_den hs.fr x
  rw [hx] at hxd
  obtain ⟨b, hb, hxv⟩ := hxd
  obtain ⟨k1, k2⟩ := cellsOf_den hd (ev_den hs.fr y) h1
  obtain ⟨b', vs, g1, g2, g3⟩ := hs.mem.cells hk
  rw [hb] at g1
  injection g1 with g1
  subst g1
  have hl : (a.eval y).cells.size = ds.length := by rw [k1.length]; simp
  have hfit : off + (a.eval y).cells.size ≤ vs.toArray.size := by have := g2.length; simp; omega
  obtain ⟨cur', c1, c2⟩ := setCells_heap b e (a.eval y).cells.toList off w vs.toArray g3 (by simpa using hfit)
  refine wp_skip' (w' := w.setCells b off (a.eval y).cells.toList) ?_ ⟨_, ρ, hv, ⟨by cases o.dst <;> exact hs.df, stO_den hs.fr o.dst rfl, hs.nm, ?_⟩, List.prefix_rfl, Zc.rfl' _, fun B hB => ?_⟩
  · unfold execOp
    simp only [ho, hxv]
    simp [run_storeAt h g3 (by omega) k2 hfit]
  · have hcur : cur' = (putV vs off (a.eval y).cells.toList).toArray := by
      apply Array.toList_inj.1
      rw [c2]; simp [putV]
    exact hs.mem.turn hk (putAt_den g2 k1 off) hb (by rw [c1, hcur]) (fun z hz => setCells_other b z hz _ _ _) (setCells_size _ _ _ _) (setCells_os _ _ _ _)
  · have hne : ∀ x, B x → x ≠ b := fun x hx e => by
      subst e
      obtain ⟨F, f1, f2⟩ := hs.mem
      obtain ⟨F1, F2, ⟨b1, us, q1, q2, q3, q4⟩, g2', gd, gF⟩ := f1.pick hk
      rw [hb] at q1; injection q1 with q1; subst q1
      rcases hB x hx with hz | ⟨j, e', cs', r1, r2, r3⟩
      · exact f2.dis x ((gF x).2 (.inl ((q4 x).2 rfl))) hz
      · have hjk : j ≠ k := fun e => r3 (e ▸ hX)
        obtain ⟨G1, G2, ⟨b2, us2, p1, p2, p3, p4⟩, _, _, pF⟩ := Holds.pick g2' (show look j (del k s.L) = some (.cells e' cs') by rw [look_del hjk]; exact r1)
        rw [r2] at p1; injection p1 with p1; subst p1
        exact gd x ((q4 x).2 rfl) ((pF x).2 (.inl ((p4 x).2 rfl)))
    refine ⟨fun x hx => setCells_other b x (hne x hx) _ _ _, fun x hx => ?_⟩
    rcases hB x hx with hz | ⟨j, e', cs', r1, r2, r3⟩
    · exact .inl hz
    · have hjk : j ≠ k := fun e => r3 (e ▸ hX)
      refine .inr ⟨j, e', cs', ?_, r2, r3⟩
      show (if k = j then _ else look j (del k s.L)) = _
      rw [if_neg (fun e => hjk e.symm), look_del hjk]; exact r1
end
end Go.Proofs.YtpjaidjnamngaaaGreat
