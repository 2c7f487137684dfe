/- The engine: a region that draws its order, by what stands whatever the order. · Codes of functions, group Cfg. · What one wants, drawn. · What one wants, drawn: the steps. · What one wants, drawn: rows, and the end. · What one wants, drawn: its contract. · What is drawn to happen to two ends, on a link that keeps all. · One takes a message by numbers, by the reference. · One sends, or asks, by numbers, by the reference. · Frames go on their way, by the reference. · One is busy, or says how far all has come, by numbers, by the reference. · One hears a frame by numbers, by the reference. · What happens to the first message, by numbers, by the reference. · A frame that is on its way is bent, by the reference. · Two ends move to another link, by the reference. -/
import Derived.Test.YtpblmlaahapohaaGreatD7
import Derived.Orders
import Derived.Test.YtpblmlaahapohaaGreatProg
import Derived.Test.YtpblmlaahapohaaGreatD14
import Derived.Test.YtpblmlaahapohaaGreatD12
import Derived.Test.YtpblmlaahapohaaGreatD6
import Derived.Test.YtpblmlaahapohaaGreatD13
namespace Go.Proofs.YtpblmlaahapohaaGreat
open Go.RowKit
set_option linter.unusedVariables false
set_option linter.unusedSimpArgs false
def rowOf (P : Program) (o : Oper) : IOp × Option Nat × List Nat × Bool := (tr P o.op, o.dst, (o.after.toList.filter (Region.binds .any)).map (·.on), o.guard.isNone)
def lst (l : Array Bool) (i : Nat) : Bool := l.getD i false
def upd (l : Nat → Bool) (i : Nat) (j : Nat) : Bool := if j = i then true else l j
theorem lst_set {l : Array Bool} {i : Nat} (h : i < l.size) : lst (l.setIfInBounds i true) = upd (lst l) i := funext fun j => by
  unfold lst upd
  by_cases e : j = i
  · subst e; simp [h]
  · rw [if_neg e, getD_set_ne false (fun h => e h.symm)]
theorem lst_none (n : Nat) : lst (Array.replicate n false) = fun _ => false := funext fun j => by
  unfold lst
  simp [Array.getElem?_replicate]
  split <;> rfl
def fwd : Nat → List (IOp × Option Nat × List Nat × Bool) → Bool
  | _, [] => true
  | n, r :: l => r.2.2.2 && r.2.2.1.all (fun j => decide (j < n)) && fwd (n + 1) l
theorem fwd_get : ∀ {l : List (IOp × Option Nat × List Nat × Bool)} {n i : Nat} {r : IOp × Option Nat × List Nat × Bool}, fwd n l = true → l[i]? = some r → r.2.2.2 = true ∧ ∀ j ∈ r.2.2.1, j < n + i
  | [], _, i, _, _, h => by cases i <;> cases h
  | x :: l, n, 0, r, h, hr => by
    injection hr with hr
    subst hr
    simp only [fwd, Bool.and_eq_true, List.all_eq_true, decide_eq_true_eq] at h
    exact ⟨h.1.1, h.1.2⟩
  | x :: l, n, i + 1, r, h, hr => by
    simp only [fwd, Bool.and_eq_true] at h
    obtain ⟨h1, h2⟩ := fwd_get h.2 hr
    exact ⟨h1, fun j hj => by have := h2 j hj; omega⟩
section
variable {P : Program} {ops : Array Oper} {C : Ctx} {K : Exit → St → Prop}
theorem ready_all {rows : List (IOp × Option Nat × List Nat × Bool)} (hr : ops.toList.map (rowOf P) = rows) (hf : fwd 0 rows = true) {l : Array Bool} (hl : l.size = ops.size) (h : Region.ready .any ops l = []) : ∀ i, i < ops.size → lst l i = true := by
  intro i
  induction i using Nat.strongRecOn with
  | _ i ih =>
    intro hi
    cases hc : lst l i with
    | true => rfl
    | false =>
      exfalso
      have hm : i ∈ Region.ready .any ops l := by
        refine mem_ready.2 ⟨?_, ops[i], by simp [hi], fun e he hb => ?_⟩
        · unfold lst at hc
          simp only [Array.getD_eq_getD_getElem?] at hc ⊢
          have : l[i]? = some l[i] := by simp [hl, hi]
          rw [this] at hc ⊢
          exact hc
        · have hget : rows[i]? = some (rowOf P ops[i]) := by rw [← hr]; simp [hi]
          have := (fwd_get hf hget).2 e.on (by
            simp only [rowOf]
            exact List.mem_map.2 ⟨e, List.mem_filter.2 ⟨by simpa using he, hb⟩, rfl⟩)
          have hlt : e.on < i := by omega
          exact ih e.on hlt (by omega)
      rw [h] at hm; cases hm
theorem wp_inv {rows : List (IOp × Option Nat × List Nat × Bool)} (hr : ops.toList.map (rowOf P) = rows) (hf : fwd 0 rows = true) (Inv : (Nat → Bool) → St → Prop)
    (hstep : ∀ l s i r, rows[i]? = some r → Inv l s → l i = false → (∀ j ∈ r.2.2.1, l j = true) → vcT P r.1 r.2.1 s fun s' => VS s' (Inv (upd l i)))
    (hend : ∀ l s, (∀ i, i < rows.length → l i = true) → Inv l s → K .normal s) :
    ∀ (n : Nat) (l : Array Bool) (s : St) (ρ : Nm) (a : Act) (w : World), l.size = ops.size → n = l.toList.count false → Inv (lst l) s → Sat C ρ s a w → wpAny P .any ops (Qof C K) n l a w := by
  have hlen : rows.length = ops.size := by rw [← hr]; simp
  intro n
  induction n with
  | zero =>
    intro l s ρ a w hl hn hI hs
    have he : Region.ready .any ops l = [] := List.eq_nil_iff_forall_not_mem.2 fun i hi => by
      have h1 := (mem_ready.1 hi).1
      have : false ∈ l.toList := by
        simp only [Array.getD_eq_getD_getElem?] at h1
        cases hx : l[i]? with
        | none => rw [hx] at h1; cases h1
        | some b =>
          rw [hx] at h1
          have h1 : b = false := h1
          subst h1
          exact Array.mem_toList_iff.2 (Array.mem_of_getElem? hx)
      have := List.count_pos_iff.2 this
      omega
    exact ⟨he, trivial, s, ρ, hend _ s (fun i hi => ready_all hr hf hl he i (by omega)) hI, hs⟩
  | succ n ih =>
    intro l s ρ a w hl hn hI hs
    refine ⟨fun he => ⟨trivial, s, ρ, hend _ s (fun i hi => ready_all hr hf hl he i (by omega)) hI, hs⟩, fun i hi => ?_⟩
    obtain ⟨hun, o, ho, hall⟩ := mem_ready.1 hi
    have hio : i < ops.size := (Array.getElem?_eq_some_iff.1 ho).1
    have hil : i < l.size := by omega
    have hget : rows[i]? = some (rowOf P o) := by rw [← hr]; simp [ho]
    have hg : o.guard = none := by
      have := (fwd_get hf hget).1
      simpa [rowOf] using this
    have hli : lst l i = false := by
      unfold lst
      simp only [Array.getD_eq_getD_getElem?] at hun ⊢
      have : l[i]? = some l[i] := by simp [hil]
      rw [this] at hun ⊢
      exact hun
    have hv := hstep (lst l) s i _ hget hI hli (fun j hj => by
      simp only [rowOf] at hj
      obtain ⟨e, he, rfl⟩ := List.mem_map.1 hj
      obtain ⟨h1, h2⟩ := List.mem_filter.1 he
      exact hall e (by simpa using h1) h2)
    have hv := vcT_opT (o := o) hv
    unfold wpOp
    rw [ho]
    simp only
    rw [if_pos (by simp [Region.wanted, hg])]
    refine .inl (Oper.wp_mono ?_ (hv C ρ a w _ hs))
    rintro a' w' ⟨s', ρ', h1, h2, _⟩
    obtain ⟨s'', ρ'', h3, h4⟩ := h1 C ρ' a' w' h2
    refine ih _ s'' ρ'' a' w' (by simp [hl]) ?_ (by rw [lst_set hil]; exact h3) h4
    have hne : l.toList[i]? = some false := by
      unfold lst at hli
      simp only [Array.getD_eq_getD_getElem?] at hli
      have e : l[i]? = some l[i] := by simp [hil]
      rw [e] at hli
      have hli : l[i] = false := hli
      rw [Array.getElem?_toList, e, hli]
    have hlt : i < l.toList.length := by simpa using hil
    have hp : 0 < l.toList.count false := List.count_pos_iff.2 (List.mem_of_getElem? hne)
    rw [Array.toList_setIfInBounds, List.count_set hlt]
    have : l.toList[i] = false := by rw [List.getElem?_eq_getElem hlt] at hne; injection hne
    rw [this, if_pos (show (false == false) = true from rfl), if_neg (show ¬ (true == false) = true by decide)]
    omega
theorem wp_regionI {id : Nat} {rows : List (IOp × Option Nat × List Nat × Bool)} (hm : P.follows .mixedOrders = true) (hr : ops.toList.map (rowOf P) = rows) (hf : fwd 0 rows = true) (Inv : (Nat → Bool) → St → Prop) {s : St} {ρ : Nm} {a : Act} {w : World} (hs : Sat C ρ s a w) (h0 : Inv (fun _ => false) s)
    (hstep : ∀ l s i r, rows[i]? = some r → Inv l s → l i = false → (∀ j ∈ r.2.2.1, l j = true) → vcT P r.1 r.2.1 s fun s' => VS s' (Inv (upd l i)))
    (hend : ∀ l s, (∀ i, i < rows.length → l i = true) → Inv l s → K .normal s) : (Code.region id ops true).wp P (Qof C K) a w :=
  wp_region_any hm (wp_inv hr hf Inv hstep hend ops.size _ s ρ a w.drew (by simp) (by simp) (by rw [lst_none]; exact h0) ⟨hs.df, hs.fr, hs.nm, hs.mem.drew⟩)
end
def midC (P : Program) (pl : List FuncId) : Option Code → Option (IC × List (IOp × Option Nat × List Nat × Bool) × IC)
  | some (.seq x (.seq (.region _ ops true) y)) => match trC P pl x, trC P pl y with
    | some ix, some iy => if P.follows .mixedOrders && fwd 0 (ops.toList.map (rowOf P)) then some (ix, ops.toList.map (rowOf P), iy) else none
    | _, _ => none
  | _ => none
def endK (G : St → Prop) : Exit → St → Prop
  | .normal, s => G s
  | _, _ => False
theorem endK_normal {G : St → Prop} {s : St} : endK G .normal s = G s := rfl
theorem spec_mid {P : Program} {f : FuncId} {fn : Func} {ix iy : IC} {rows : List (IOp × Option Nat × List Nat × Bool)} {fr : List FR} {pl : List FuncId} {args : List Value} {m : Nat} {z : Zc} {A : Asrt} {R : Value → Zc → Asrt → Prop}
    (hf : P.funcs[f]? = some fn) (hc : midC P pl fn.body = some (ix, rows, iy)) (hr : fres P fn.results.toList = some fr) (hn : fn.ntmps = m) (Inv : (Nat → Bool) → St → Prop)
    (hv : vcI P ix ⟨args.map ofV ++ List.replicate (m - args.length) unS, [(1000, .own A)], z, 0⟩ (endK fun s => VS s (Inv fun _ => false)))
    (hstep : ∀ l s i r, rows[i]? = some r → Inv l s → l i = false → (∀ j ∈ r.2.2.1, l j = true) → vcT P r.1 r.2.1 s fun s' => VS s' (Inv (upd l i)))
    (hend : ∀ l s, (∀ i, i < rows.length → l i = true) → Inv l s → vsI P iy (postK fr R) s) : Spec P f args z A R := fun w F hw hA => by
  obtain ⟨x, id, ops, y, hb, hx, hy, hm, hfw, hrows⟩ : ∃ x id ops y, fn.body = some (.seq x (.seq (.region id ops true) y)) ∧ trC P pl x = some ix ∧ trC P pl y = some iy ∧ P.follows .mixedOrders = true ∧ fwd 0 rows = true ∧ ops.toList.map (rowOf P) = rows := by
    unfold midC at hc
    split at hc
    · rename_i x id ops y hbody
      split at hc
      · rename_i ix' iy' hx hy
        split at hc
        · rename_i hcc
          simp only [Bool.and_eq_true] at hcc
          injection hc with hc
          injection hc with h1 h2
          injection h2 with h2 h3
          subst h1
          subst h3
          exact ⟨x, id, ops, y, hbody, hx, hy, hcc.1, by rw [← h2]; exact hcc.2, h2⟩
        · cases hc
      · cases hc
    · cases hc
  refine calls_of_wp hf hb ?_
  have hs : Sat ⟨w, F, z⟩ [] ⟨args.map ofV ++ List.replicate (m - args.length) unS, [(1000, .own A)], z, 0⟩ { tmps := args.toArray ++ Array.replicate (fn.ntmps - args.toArray.size) undef, defers := [] } w := by
    refine ⟨rfl, ?_, rfl, F, ⟨F, fun _ => False, hA, fun _ h => h, fun _ _ h => h, fun b => by simp⟩, hw⟩
    simp only [Array.toList_append, Array.toList_replicate, hn, List.size_toArray]
    exact (DL.map_id (ofV_den []) args).append (DL.replicate (R := SV.den []) (x := unS) (y := undef) rfl _)
  refine wp_mono (Q := Qof ⟨w, F, z⟩ (postK fr R)) ?_ ?_
  · refine wp_seq (wp_mono (vcI_sound x ix hx _ _ ⟨w, F, z⟩ [] _ w hv hs) ?_)
    rintro e a' w' ⟨hp, s', ρ', hk, hs'⟩
    cases e with
    | normal =>
      obtain ⟨s', ρ', hk, hs'⟩ := hk _ _ _ _ hs'
      refine wp_seq (wp_mono (wp_regionI (K := fun e s => match e with | .normal => vsI P iy (postK fr R) s | _ => False) hm hrows hfw Inv hs' hk hstep hend) ?_)
      rintro e a'' w'' ⟨hp, s'', ρ'', hk, hs''⟩
      cases e with
      | normal =>
        obtain ⟨s3, ρ3, g1, g2⟩ := hk _ _ _ _ hs''
        exact vcI_sound y iy hy s3 _ _ ρ3 _ _ g1 g2
      | exit id => exact hk.elim
      | goto l => exact hk.elim
      | ret => exact hk.elim
      | panic c => exact hp.elim
      | outgrown => exact hp.elim
    | exit id => exact hk.elim
    | goto l => exact hk.elim
    | ret => exact hk.elim
    | panic c => exact hp.elim
    | outgrown => exact hp.elim
  rintro e a' w' ⟨hp, s', ρ', hk, hs'⟩
  have fin : FinV fr s' R → a'.defers = [] ∧ ∃ v, (results fn a'.tmps).run P w' = .ok v w' ∧ ∃ v_1 z' A' F', Ending.returned v = .returned v_1 ∧ R v_1 z' A' ∧ A'.holds w' F' ∧ WOk ⟨w, F, z⟩ z' F' w' := fun hk => by
    obtain ⟨vs, z', A', F', g1, g2, g3, g4⟩ := hk _ _ _ _ hs'
    exact ⟨hs'.df, _, results_run hr g1, _, z', A', F', rfl, g2, g3, g4⟩
  cases e with
  | normal => exact fin hk
  | ret => exact fin hk
  | exit id => exact hk.elim
  | goto l => exact hk.elim
  | panic c => exact hp.elim
  | outgrown => exact hp.elim
set_option maxRecDepth 100000
set_option maxHeartbeats 4000000
def md38 : IC × List (IOp × Option Nat × List Nat × Bool) × IC := ((IC.reg [] (IReg.op Kd.t (IOp.alc 24 [(Value.int IntKind.i64 0), (Value.int IntKind.i64 0), (Value.int IntKind.i64 0), (Value.int IntKind.i64 0), (Value.int IntKind.i64 0)]) (some 4) none IReg.done)), ([((IOp.mv (Operand.tmp 0)), ((some 6), ([], true))), ((IOp.call 40 [(Operand.tmp 6), (Operand.const (Value.int IntKind.i64 2))]), ((some 7), ([0], true))), ((IOp.bin BinOp.add (Operand.const (Value.int IntKind.i64 1)) (Operand.tmp 7)), ((some 8), ([1], true))), ((IOp.mv (Operand.tmp 0)), ((some 9), ([], true))), ((IOp.call 40 [(Operand.tmp 9), (Operand.const (Value.int IntKind.i64 4))]), ((some 10), ([3, 1], true))), ((IOp.bin BinOp.add (Operand.const (Value.int IntKind.i64 1)) (Operand.tmp 10)), ((some 11), ([4], true))), ((IOp.mv (Operand.tmp 0)), ((some 12), ([], true))), ((IOp.call 40 [(Operand.tmp 12), (Operand.const (Value.int IntKind.i64 8))]), ((some 13), ([6, 4], true))), ((IOp.bin BinOp.add (Operand.const (Value.int IntKind.i64 1)) (Operand.tmp 13)), ((some 14), ([7], true))), ((IOp.bsl 3 1 3 [(Value.int IntKind.i64 0)] [(0, (Operand.tmp 14)), (1, (Operand.const (Value.int IntKind.i64 3))), (2, (Operand.const (Value.int IntKind.i64 8)))]), ((some 15), ([8], true))), ((IOp.mv (Operand.tmp 0)), ((some 16), ([], true))), ((IOp.call 40 [(Operand.tmp 16), (Operand.const (Value.int IntKind.i64 3))]), ((some 17), ([10, 7], true))), ((IOp.iad (Operand.tmp 15) (Operand.tmp 17) 1), ((some 18), ([9, 11], true))), ((IOp.ld (Operand.tmp 18) 1 false), ((some 19), ([12], true))), ((IOp.mv (Operand.tmp 0)), ((some 20), ([], true))), ((IOp.call 40 [(Operand.tmp 20), (Operand.const (Value.int IntKind.i64 24))]), ((some 21), ([14, 11], true))), ((IOp.bin BinOp.add (Operand.const (Value.int IntKind.i64 1)) (Operand.tmp 21)), ((some 22), ([15], true))), ((IOp.bsl 3 1 2 [(Value.int IntKind.i64 0)] [(0, (Operand.const (Value.int IntKind.i64 24))), (1, (Operand.tmp 22))]), ((some 23), ([16], true))), ((IOp.mv (Operand.tmp 0)), ((some 24), ([], true))), ((IOp.call 40 [(Operand.tmp 24), (Operand.const (Value.int IntKind.i64 2))]), ((some 25), ([18, 15], true))), ((IOp.iad (Operand.tmp 23) (Operand.tmp 25) 1), ((some 26), ([17, 19], true))), ((IOp.ld (Operand.tmp 26) 1 false), ((some 27), ([20], true))), ((IOp.mv (Operand.tmp 0)), ((some 28), ([], true))), ((IOp.call 40 [(Operand.tmp 28), (Operand.const (Value.int IntKind.i64 5))]), ((some 29), ([22, 19], true))), ((IOp.bin BinOp.add (Operand.const (Value.int IntKind.i64 1)) (Operand.tmp 29)), ((some 30), ([23], true))), ((IOp.bld [(Value.int IntKind.i64 0), (Value.int IntKind.i64 0), (Value.int IntKind.i64 0), (Value.int IntKind.i64 0), (Value.int IntKind.i64 0)] [(0, (1, (Operand.tmp 8))), (1, (1, (Operand.tmp 11))), (2, (1, (Operand.tmp 19))), (3, (1, (Operand.tmp 27))), (4, (1, (Operand.tmp 30)))]), ((some 31), ([2, 5, 13, 21, 24], true))), ((IOp.alc 24 [(Value.int IntKind.i64 0), (Value.int IntKind.i64 0), (Value.int IntKind.i64 0), (Value.int IntKind.i64 0), (Value.int IntKind.i64 0)]), ((some 5), ([], true))), ((IOp.sto (Operand.tmp 5) (Operand.tmp 31) 5), (none, ([26, 25, 23, 0, 1, 2, 3, 4, 5, 6, 7, 8, 9, 10, 11, 12, 13, 14, 15, 16, 17, 18, 19, 20, 21, 22, 23, 24, 25, 26], true)))], (IC.seq (IC.seq (IC.reg [] (IReg.op Kd.t (IOp.mv (Operand.tmp 0)) (some 32) none (IReg.op Kd.t (IOp.mv (Operand.tmp 1)) (some 33) none (IReg.op Kd.t (IOp.call 60 [(Operand.tmp 32), (Operand.tmp 33)]) (some 34) none IReg.done)))) (IC.cond (Operand.tmp 34) (IC.seq (IC.reg [] (IReg.op Kd.t (IOp.mv (Operand.tmp 0)) (some 35) none (IReg.op Kd.t (IOp.call 40 [(Operand.tmp 35), (Operand.const (Value.int IntKind.i64 5))]) (some 36) none IReg.done))) (IC.block 0 (IC.seq (IC.reg [] (IReg.op Kd.t (IOp.bin BinOp.eql (Operand.tmp 36) (Operand.const (Value.int IntKind.i64 0))) (some 44) none (IReg.op Kd.t (IOp.mv (Operand.tmp 44)) (some 43) none IReg.done))) (IC.cond (Operand.tmp 43) (IC.reg [] (IReg.op Kd.t (IOp.bsl 3 1 2 [(Value.int IntKind.i64 0)] [(0, (Operand.const (Value.int IntKind.i64 0))), (1, (Operand.const (Value.int IntKind.i64 3)))]) (some 45) none (IReg.op Kd.t (IOp.mv (Operand.tmp 0)) (some 46) none (IReg.op Kd.t (IOp.call 40 [(Operand.tmp 46), (Operand.const (Value.int IntKind.i64 2))]) (some 47) none (IReg.op Kd.t (IOp.iad (Operand.tmp 45) (Operand.tmp 47) 1) (some 48) none (IReg.op Kd.t (IOp.ld (Operand.tmp 48) 1 false) (some 49) none (IReg.op Kd.t (IOp.fad (Operand.tmp 5) 0) (some 50) none (IReg.op Kd.t (IOp.sto (Operand.tmp 50) (Operand.tmp 49) 1) none none IReg.done)))))))) (IC.seq (IC.reg [] (IReg.op Kd.t (IOp.bin BinOp.eql (Operand.tmp 36) (Operand.const (Value.int IntKind.i64 1))) (some 52) none (IReg.op Kd.t (IOp.mv (Operand.tmp 52)) (some 51) none IReg.done))) (IC.cond (Operand.tmp 51) (IC.reg [] (IReg.op Kd.t (IOp.bsl 3 1 2 [(Value.int IntKind.i64 0)] [(0, (Operand.const (Value.int IntKind.i64 0))), (1, (Operand.const (Value.int IntKind.i64 5)))]) (some 53) none (IReg.op Kd.t (IOp.mv (Operand.tmp 0)) (some 54) none (IReg.op Kd.t (IOp.call 40 [(Operand.tmp 54), (Operand.const (Value.int IntKind.i64 2))]) (some 55) none (IReg.op Kd.t (IOp.iad (Operand.tmp 53) (Operand.tmp 55) 1) (some 56) none (IReg.op Kd.t (IOp.ld (Operand.tmp 56) 1 false) (some 57) none (IReg.op Kd.t (IOp.fad (Operand.tmp 5) 1) (some 58) none (IReg.op Kd.t (IOp.sto (Operand.tmp 58) (Operand.tmp 57) 1) none none IReg.done)))))))) (IC.seq (IC.reg [] (IReg.op Kd.t (IOp.bin BinOp.eql (Operand.tmp 36) (Operand.const (Value.int IntKind.i64 2))) (some 60) none (IReg.op Kd.t (IOp.mv (Operand.tmp 60)) (some 59) none IReg.done))) (IC.cond (Operand.tmp 59) (IC.reg [] (IReg.op Kd.t (IOp.bsl 3 1 2 [(Value.int IntKind.i64 0)] [(0, (Operand.const (Value.int IntKind.i64 0))), (1, (Operand.const (Value.int IntKind.i64 9)))]) (some 61) none (IReg.op Kd.t (IOp.mv (Operand.tmp 0)) (some 62) none (IReg.op Kd.t (IOp.call 40 [(Operand.tmp 62), (Operand.const (Value.int IntKind.i64 2))]) (some 63) none (IReg.op Kd.t (IOp.iad (Operand.tmp 61) (Operand.tmp 63) 1) (some 64) none (IReg.op Kd.t (IOp.ld (Operand.tmp 64) 1 false) (some 65) none (IReg.op Kd.t (IOp.fad (Operand.tmp 5) 2) (some 66) none (IReg.op Kd.t (IOp.sto (Operand.tmp 66) (Operand.tmp 65) 1) none none IReg.done)))))))) (IC.seq (IC.reg [] (IReg.op Kd.t (IOp.bin BinOp.eql (Operand.tmp 36) (Operand.const (Value.int IntKind.i64 3))) (some 68) none (IReg.op Kd.t (IOp.mv (Operand.tmp 68)) (some 67) none IReg.done))) (IC.cond (Operand.tmp 67) (IC.reg [] (IReg.op Kd.t (IOp.bsl 3 1 2 [(Value.int IntKind.i64 0)] [(0, (Operand.const (Value.int IntKind.i64 0))), (1, (Operand.const (Value.int IntKind.i64 25)))]) (some 69) none (IReg.op Kd.t (IOp.mv (Operand.tmp 0)) (some 70) none (IReg.op Kd.t (IOp.call 40 [(Operand.tmp 70), (Operand.const (Value.int IntKind.i64 2))]) (some 71) none (IReg.op Kd.t (IOp.iad (Operand.tmp 69) (Operand.tmp 71) 1) (some 72) none (IReg.op Kd.t (IOp.ld (Operand.tmp 72) 1 false) (some 73) none (IReg.op Kd.t (IOp.fad (Operand.tmp 5) 3) (some 74) none (IReg.op Kd.t (IOp.sto (Operand.tmp 74) (Operand.tmp 73) 1) none none IReg.done)))))))) (IC.reg [] (IReg.op Kd.t (IOp.bsl 3 1 2 [(Value.int IntKind.i64 0)] [(0, (Operand.const (Value.int IntKind.i64 0))), (1, (Operand.const (Value.int IntKind.i64 6)))]) (some 37) none (IReg.op Kd.t (IOp.mv (Operand.tmp 0)) (some 38) none (IReg.op Kd.t (IOp.call 40 [(Operand.tmp 38), (Operand.const (Value.int IntKind.i64 2))]) (some 39) none (IReg.op Kd.t (IOp.iad (Operand.tmp 37) (Operand.tmp 39) 1) (some 40) none (IReg.op Kd.t (IOp.ld (Operand.tmp 40) 1 false) (some 41) none (IReg.op Kd.t (IOp.fad (Operand.tmp 5) 4) (some 42) none (IReg.op Kd.t (IOp.sto (Operand.tmp 42) (Operand.tmp 41) 1) none none IReg.done)))))))))))))))))) IC.skip)) (IC.seq (IC.reg [] (IReg.op Kd.t (IOp.ld (Operand.tmp 5) 5 true) (some 75) none (IReg.op Kd.t (IOp.sto (Operand.tmp 4) (Operand.tmp 75) 5) none none IReg.done))) IC.ret))))
theorem md38_ok : midC Tryz.prog [] Tryz.f38.body = some md38 := by kernel_rfl
def fr38 : List FR := [(FR.c 4 5 true)]
theorem fr38_ok : fres Tryz.prog Tryz.f38.results.toList = some fr38 := by kernel_rfl
set_option maxHeartbeats 1000000
theorem gt_st_eq (v : SV) : ∀ {l : List SV} {n : Nat}, n < l.length → gt (st l n v) n = v
  | _ :: _, 0, _ => rfl
  | _ :: l, n + 1, h => gt_st_eq v (l := l) (n := n) (Nat.lt_of_succ_lt_succ h)
  | [], _, h => absurd h (Nat.not_lt_zero _)
theorem gt_st_ne (v : SV) : ∀ {l : List SV} {n m : Nat}, n ≠ m → gt (st l n v) m = gt l m
  | [], _, _, _ => rfl
  | _ :: _, 0, 0, h => absurd rfl h
  | _ :: _, 0, _ + 1, _ => rfl
  | _ :: _, _ + 1, 0, _ => rfl
  | _ :: l, n + 1, m + 1, h => gt_st_ne v (l := l) (fun e => h (by rw [e]))
theorem st_len (v : SV) (l : List SV) (n : Nat) : (st l n v).length = l.length := by rw [st_eq, List.length_set]
theorem gt_map {f : SV → SV} (hf : f unS = unS) : ∀ (l : List SV) (n : Nat), gt (l.map f) n = f (gt l n)
  | [], _ => hf.symm
  | _ :: _, 0 => rfl
  | _ :: l, n + 1 => gt_map hf l n
def isI (lo hi : Int) (sv : SV) : Prop := ∃ x : Int, sv = .c (.v (.int .i64 x)) ∧ lo ≤ x ∧ x ≤ hi
def isF (z : Zc) (hi : Int) (sv : SV) : Prop := ∃ A o x, sv = .c (.f A o) ∧ RdAt z A o [.int .i64 x] ∧ 1 ≤ x ∧ x ≤ hi
def Fct (pv : Value) (z : Zc) (i : Nat) (sv : SV) : Prop :=
  ((i = 0 ∨ i = 3 ∨ i = 6 ∨ i = 10 ∨ i = 14 ∨ i = 18 ∨ i = 22) → sv = .c (.v pv)) ∧
  (i = 1 → isI 0 1 sv) ∧ (i = 2 → isI 1 2 sv) ∧ (i = 4 → isI 0 3 sv) ∧ (i = 5 → isI 1 4 sv) ∧ (i = 7 → isI 0 7 sv) ∧ (i = 8 → isI 1 8 sv) ∧ (i = 11 → isI 0 2 sv) ∧ (i = 13 → isI 1 8 sv) ∧ (i = 15 → isI 0 23 sv) ∧ (i = 16 → isI 1 24 sv) ∧ (i = 19 → isI 0 1 sv) ∧ (i = 21 → isI 1 24 sv) ∧ (i = 23 → isI 0 4 sv) ∧ (i = 24 → isI 1 5 sv) ∧
  (i = 9 → ∃ A x, sv = .c (.v (.slice A 3 3)) ∧ IsAt A ∧ RdAt z A 0 [.int .i64 x, .int .i64 3, .int .i64 8] ∧ 1 ≤ x ∧ x ≤ 8) ∧
  (i = 17 → ∃ A x, sv = .c (.v (.slice A 2 2)) ∧ IsAt A ∧ RdAt z A 0 [.int .i64 24, .int .i64 x] ∧ 1 ≤ x ∧ x ≤ 24) ∧
  (i = 12 → isF z 8 sv) ∧ (i = 20 → isF z 24 sv) ∧
  (i = 25 → ∃ c : Cfg, sv = .a [.v (.int .i64 c.mode), .v (.int .i64 c.win), .v (.int .i64 c.mps), .v (.int .i64 c.mtu), .v (.int .i64 c.tri)] ∧ CfgI c)
theorem isI.sub {lo hi : Int} {sv : SV} {k b : Nat} (h : isI lo hi sv) : isI lo hi (subV k b sv) := by
  obtain ⟨x, rfl, h⟩ := h
  exact ⟨x, rfl, h⟩
theorem isF.mono {z z' : Zc} {hi : Int} {sv : SV} {k b : Nat} (hz : z ≤ z') (h : isF z hi sv) : isF z' hi (subV k b sv) := by
  obtain ⟨A, o, x, rfl, h1, h2⟩ := h
  exact ⟨A, o, x, rfl, h1.mono hz, h2⟩
theorem Fct.mono {pv : Value} {z z' : Zc} {i : Nat} {sv : SV} {k b : Nat} (hz : z ≤ z') (h : Fct pv z i sv) : Fct pv z' i (subV k b sv) := by
  obtain ⟨h0, h1, h2, h3, h4, h5, h6, h7, h8, h9, ha, hb, hc, hd, he, hf, hg, hh, hi, hj⟩ := h
  refine ⟨fun e => by rw [h0 e]; rfl, fun e => (h1 e).sub, fun e => (h2 e).sub, fun e => (h3 e).sub, fun e => (h4 e).sub, fun e => (h5 e).sub, fun e => (h6 e).sub, fun e => (h7 e).sub, fun e => (h8 e).sub, fun e => (h9 e).sub, fun e => (ha e).sub, fun e => (hb e).sub, fun e => (hc e).sub, fun e => (hd e).sub, fun e => (he e).sub, fun e => ?_, fun e => ?_, fun e => (hh e).mono hz, fun e => (hi e).mono hz, fun e => ?_⟩
  · obtain ⟨A, x, rfl, k1, k2, k3⟩ := hf e
    exact ⟨A, x, rfl, k1, k2.mono hz, k3⟩
  · obtain ⟨A, x, rfl, k1, k2, k3⟩ := hg e
    exact ⟨A, x, rfl, k1, k2.mono hz, k3⟩
  · obtain ⟨c, rfl, k1⟩ := hj e
    exact ⟨c, rfl, k1⟩
def b1 (b : Bool) : Nat := if b then 1 else 0
def cnt (l : Nat → Bool) : Nat := b1 (l 1) + b1 (l 4) + b1 (l 7) + b1 (l 11) + b1 (l 15) + b1 (l 19) + b1 (l 23)
def nms (l : Nat → Bool) : Nat := 1 + b1 (l 9) + b1 (l 17) + b1 (l 26)
theorem b1_le (b : Bool) : b1 b ≤ 1 := by cases b <;> decide
theorem nms_le (l : Nat → Bool) : nms l ≤ 4 := by unfold nms; have := b1_le (l 9); have := b1_le (l 17); have := b1_le (l 26); omega
theorem cnt_le (l : Nat → Bool) : cnt l ≤ 7 := by unfold cnt; have := b1_le (l 1); have := b1_le (l 4); have := b1_le (l 7); have := b1_le (l 11); have := b1_le (l 15); have := b1_le (l 19); have := b1_le (l 23); omega
abbrev z5 : List SC := [.v (.int .i64 0), .v (.int .i64 0), .v (.int .i64 0), .v (.int .i64 0), .v (.int .i64 0)]
abbrev c5 (c : Cfg) : List SC := [.v (.int .i64 c.mode), .v (.int .i64 c.win), .v (.int .i64 c.mps), .v (.int .i64 c.mtu), .v (.int .i64 c.tri)]
section
variable {z0 : Zc} {b : Nat} {A : Option Addr} {nn cc : Nat} {p : Int}
structure InvC (z0 : Zc) (b : Nat) (A : Option Addr) (nn cc : Nat) (p : Int) (l : Nat → Bool) (s : St) : Prop where
  z : z0 ≤ s.z
  n : s.n = nms l
  len : s.t.length = 76
  g0 : gt s.t 0 = .c (.v (.pointer (some ⟨b, 0, none⟩)))
  g1 : gt s.t 1 = .c (.v (.int .i64 0))
  g4 : gt s.t 4 = .c (.p 0 0)
  fct : ∀ i, i < 26 → l i = true → Fct (.pointer (some ⟨b, 0, none⟩)) s.z i (gt s.t (i + 6))
  L : (l 26 = false ∧ l 27 = false ∧ s.L = [(1000, .own (starL [rdA b A nn cc (p + cnt l)])), (0, .cells 24 z5)]) ∨
    (l 26 = true ∧ l 27 = false ∧ ∃ k, 1 ≤ k ∧ k < s.n ∧ gt s.t 5 = .c (.p k 0) ∧ s.L = [(1000, .own (starL [rdA b A nn cc (p + cnt l)])), (k, .cells 24 z5), (0, .cells 24 z5)]) ∨
    ((∀ j, j < 28 → l j = true) ∧ ∃ k c, 1 ≤ k ∧ k < s.n ∧ gt s.t 5 = .c (.p k 0) ∧ CfgI c ∧ s.L = [(1000, .own (starL [rdA b A nn cc (p + cnt l)])), (k, .cells 24 (c5 c)), (0, .cells 24 z5)])
theorem upd_eq (l : Nat → Bool) (i : Nat) : upd l i i = true := by simp [upd]
theorem upd_ne (l : Nat → Bool) {i j : Nat} (h : j ≠ i) : upd l i j = l j := by simp [upd, h]
theorem InvC.fct' {l : Nat → Bool} {s : St} (h : InvC z0 b A nn cc p l s) {i : Nat} {sv : SV} (hi : i < 26) (hf : Fct (.pointer (some ⟨b, 0, none⟩)) s.z i sv) : ∀ j, j < 26 → upd l i j = true → Fct (.pointer (some ⟨b, 0, none⟩)) s.z j (gt (st s.t (i + 6) sv) (j + 6)) := fun j hj hl => by
  by_cases e : j = i
  · subst e; rw [gt_st_eq _ (by rw [h.len]; omega)]; exact hf
  · rw [gt_st_ne _ (by omega)]; rw [upd_ne l e] at hl; exact h.fct j hj hl
theorem InvC.pure {l : Nat → Bool} {s : St} (h : InvC z0 b A nn cc p l s) (i : Nat) {sv : SV} (hi : i < 26) (hl : l i = false) (hc : cnt (upd l i) = cnt l) (hn : nms (upd l i) = nms l) (hf : Fct (.pointer (some ⟨b, 0, none⟩)) s.z i sv) : InvC z0 b A nn cc p (upd l i) ⟨st s.t (i + 6) sv, s.L, s.z, s.n⟩ := by
  refine ⟨h.z, by rw [hn]; exact h.n, by rw [st_len]; exact h.len, ?_, ?_, ?_, h.fct' hi hf, ?_⟩
  · rw [gt_st_ne _ (by omega)]; exact h.g0
  · rw [gt_st_ne _ (by omega)]; exact h.g1
  · rw [gt_st_ne _ (by omega)]; exact h.g4
  · rw [hc, upd_ne l (by omega), upd_ne l (by omega)]
    rcases h.L with ⟨h1, h2, h3⟩ | ⟨h1, h2, k, h3, h4, h5, h6⟩ | ⟨h1, _⟩
    · exact .inl ⟨h1, h2, h3⟩
    · exact .inr (.inl ⟨h1, h2, k, h3, h4, by rw [gt_st_ne _ (by omega)]; exact h5, h6⟩)
    · rw [h1 i (by omega)] at hl; cases hl
theorem InvC.look {l : Nat → Bool} {s : St} (h : InvC z0 b A nn cc p l s) : look 1000 s.L = some (.own (starL [rdA b A nn cc (p + cnt l)])) ∧ look 1000 (del 1000 s.L) = none := by
  have hn := h.n
  have := nms_le l
  rcases h.L with ⟨h1, h2, h3⟩ | ⟨h1, h2, k, h3, h4, h5, h6⟩ | ⟨h1, k, c, h3, h4, h5, h6, h7⟩
  · rw [h3]; exact ⟨rfl, rfl⟩
  · rw [h6]; refine ⟨rfl, ?_⟩
    simp [del, Go.Proofs.YtpblmlaahapohaaGreat.look, show k ≠ 1000 by omega]
  · rw [h7]; refine ⟨rfl, ?_⟩
    simp [del, Go.Proofs.YtpblmlaahapohaaGreat.look, show k ≠ 1000 by omega]
theorem InvC.call {l : Nat → Bool} {s : St} (h : InvC z0 b A nn cc p l s) (i : Nat) {sv : SV} (hi : i < 26) (hl : l i = false) (hc : cnt (upd l i) = cnt l + 1) (hn : nms (upd l i) = nms l) (hf : Fct (.pointer (some ⟨b, 0, none⟩)) s.z i sv) : InvC z0 b A nn cc p (upd l i) ⟨st s.t (i + 6) sv, (1000, .own (starL [rdA b A nn cc (p + cnt l + 1)])) :: del 1000 s.L, s.z, s.n⟩ := by
  refine ⟨h.z, by rw [hn]; exact h.n, by rw [st_len]; exact h.len, ?_, ?_, ?_, h.fct' hi hf, ?_⟩
  · rw [gt_st_ne _ (by omega)]; exact h.g0
  · rw [gt_st_ne _ (by omega)]; exact h.g1
  · rw [gt_st_ne _ (by omega)]; exact h.g4
  · have e : p + ((cnt l + 1 : Nat) : Int) = p + cnt l + 1 := by omega
    rw [hc, upd_ne l (by omega), upd_ne l (by omega), e]
    rcases h.L with ⟨h1, h2, h3⟩ | ⟨h1, h2, k, h3, h4, h5, h6⟩ | ⟨h1, _⟩
    · exact .inl ⟨h1, h2, by dsimp only; rw [h3]; rfl⟩
    · exact .inr (.inl ⟨h1, h2, k, h3, h4, by rw [gt_st_ne _ (by omega)]; exact h5, by dsimp only; rw [h6]; rfl⟩)
    · rw [h1 i (by omega)] at hl; cases hl
theorem del_self {k : Nat} {e : Ent} {L : Ents} : del k ((k, e) :: L) = L := by simp [del]
theorem InvC.bsl {l : Nat → Bool} {s : St} (h : InvC z0 b A nn cc p l s) (i : Nat) {sv : SV} {x : Ent} {b' : Nat} {z' : Zc} (hi : i < 26) (hl : l i = false) (hc : cnt (upd l i) = cnt l) (hn : nms (upd l i) = nms l + 1) (hz : s.z ≤ z') (hf : Fct (.pointer (some ⟨b, 0, none⟩)) z' i (subV s.n b' sv)) : InvC z0 b A nn cc p (upd l i) (frz ⟨st s.t (i + 6) sv, (s.n, x) :: s.L, s.z, s.n + 1⟩ s.n b' z') := by
  have hm := gt_map (f := subV s.n b') rfl
  have h1n : 1 ≤ s.n := by rw [h.n]; unfold nms; omega
  unfold frz
  dsimp only
  rw [del_self]
  refine ⟨Zc.trans' h.z hz, by dsimp only; rw [hn, h.n], by rw [List.length_map, st_len]; exact h.len, ?_, ?_, ?_, fun j hj hlj => ?_, ?_⟩
  · rw [hm, gt_st_ne _ (by omega), h.g0]; rfl
  · rw [hm, gt_st_ne _ (by omega), h.g1]; rfl
  · rw [hm, gt_st_ne _ (by omega), h.g4]; simp [subV, subC]; omega
  · rw [hm]
    by_cases e : j = i
    · subst e; rw [gt_st_eq _ (by rw [h.len]; omega)]; exact hf
    · rw [gt_st_ne _ (by omega)]; rw [upd_ne l e] at hlj; exact (h.fct j hj hlj).mono hz
  · rw [hc, upd_ne l (by omega), upd_ne l (by omega)]
    rcases h.L with ⟨h1, h2, h3⟩ | ⟨h1, h2, k, h3, h4, h5, h6⟩ | ⟨h1, _⟩
    · exact .inl ⟨h1, h2, by dsimp only; rw [h3]; rfl⟩
    · refine .inr (.inl ⟨h1, h2, k, h3, by dsimp only; omega, ?_, by dsimp only; rw [h6]; rfl⟩)
      rw [hm, gt_st_ne _ (by omega), h5]; simp [subV, subC]; omega
    · rw [h1 i (by omega)] at hl; cases hl
end
section
variable {z0 : Zc} {b : Nat} {A : Option Addr} {nn cc : Nat} {p : Int} {code : List Int}
abbrev StpC (z0 : Zc) (b : Nat) (A : Option Addr) (nn cc : Nat) (p : Int) (l : Nat → Bool) (i : Nat) (s : St) : Prop := VS s (InvC z0 b A nn cc p (upd l i))
theorem vcm_mv' {x : Operand} {d : Option Nat} {s : St} {K : St → Prop} : vcT Tryz.prog (.mv x) d s K = K ⟨stO s.t d (ev s.t x), s.L, s.z, s.n⟩ := rfl
theorem cfg_0 {l : Nat → Bool} {s : St} (h : InvC z0 b A nn cc p l s) (hl : l 0 = false) : vcT Tryz.prog (.mv (.tmp 0)) (some 6) s (StpC z0 b A nn cc p l 0) := by
  rw [vcm_mv']
  simp only [ev, stO, h.g0]
  exact VS.id (h.pure 0 (by omega) hl (by simp [cnt, upd]) (by simp [nms, upd]) (by simp [Fct]))
theorem cfg_3 {l : Nat → Bool} {s : St} (h : InvC z0 b A nn cc p l s) (hl : l 3 = false) : vcT Tryz.prog (.mv (.tmp 0)) (some 9) s (StpC z0 b A nn cc p l 3) := by
  rw [vcm_mv']
  simp only [ev, stO, h.g0]
  exact VS.id (h.pure 3 (by omega) hl (by simp [cnt, upd]) (by simp [nms, upd]) (by simp [Fct]))
theorem cfg_6 {l : Nat → Bool} {s : St} (h : InvC z0 b A nn cc p l s) (hl : l 6 = false) : vcT Tryz.prog (.mv (.tmp 0)) (some 12) s (StpC z0 b A nn cc p l 6) := by
  rw [vcm_mv']
  simp only [ev, stO, h.g0]
  exact VS.id (h.pure 6 (by omega) hl (by simp [cnt, upd]) (by simp [nms, upd]) (by simp [Fct]))
theorem cfg_10 {l : Nat → Bool} {s : St} (h : InvC z0 b A nn cc p l s) (hl : l 10 = false) : vcT Tryz.prog (.mv (.tmp 0)) (some 16) s (StpC z0 b A nn cc p l 10) := by
  rw [vcm_mv']
  simp only [ev, stO, h.g0]
  exact VS.id (h.pure 10 (by omega) hl (by simp [cnt, upd]) (by simp [nms, upd]) (by simp [Fct]))
theorem cfg_14 {l : Nat → Bool} {s : St} (h : InvC z0 b A nn cc p l s) (hl : l 14 = false) : vcT Tryz.prog (.mv (.tmp 0)) (some 20) s (StpC z0 b A nn cc p l 14) := by
  rw [vcm_mv']
  simp only [ev, stO, h.g0]
  exact VS.id (h.pure 14 (by omega) hl (by simp [cnt, upd]) (by simp [nms, upd]) (by simp [Fct]))
theorem cfg_18 {l : Nat → Bool} {s : St} (h : InvC z0 b A nn cc p l s) (hl : l 18 = false) : vcT Tryz.prog (.mv (.tmp 0)) (some 24) s (StpC z0 b A nn cc p l 18) := by
  rw [vcm_mv']
  simp only [ev, stO, h.g0]
  exact VS.id (h.pure 18 (by omega) hl (by simp [cnt, upd]) (by simp [nms, upd]) (by simp [Fct]))
theorem cfg_22 {l : Nat → Bool} {s : St} (h : InvC z0 b A nn cc p l s) (hl : l 22 = false) : vcT Tryz.prog (.mv (.tmp 0)) (some 28) s (StpC z0 b A nn cc p l 22) := by
  rw [vcm_mv']
  simp only [ev, stO, h.g0]
  exact VS.id (h.pure 22 (by omega) hl (by simp [cnt, upd]) (by simp [nms, upd]) (by simp [Fct]))
theorem cfg_1 {l : Nat → Bool} {s : St} (h : InvC z0 b A code.length cc p l s) (hb : By z0 code (.slice A code.length cc)) (hp : 0 ≤ p ∧ p ≤ 800000) (hlen : code.length ≤ 2000) (hl : l 1 = false) (h0 : l 0 = true) : vcT Tryz.prog (.call 40 [.tmp 6, .const (.int .i64 2)]) (some 7) s (StpC z0 b A code.length cc p l 1) := by
  have hv : gt s.t 6 = .c (.v (.pointer (some ⟨b, 0, none⟩))) := (h.fct 0 (by omega) h0).1 (by simp)
  have := cnt_le l
  rw [vcT_call]
  refine callM.toT ?_
  refine callW 1000 (pick_s b A cc code (p + cnt l) 2 s.z (hb.mono h.z) (by omega) hlen (by omega)) (by simp only [argsV, ev, hv]; rfl) h.look.1 h.look.2 rfl ?_
  rintro v z' A' hz ⟨x, rfl, rfl, rfl, hx0, hx1, _⟩
  have hx1 := hx1 (by omega)
  exact VS.id (h.call 1 (sv := .c (.v (.int .i64 x))) (by omega) hl (by simp [cnt, upd, hl, b1]; try omega) (by simp [nms, upd]) (by simp [Fct, isI]; omega))
theorem cfg_4 {l : Nat → Bool} {s : St} (h : InvC z0 b A code.length cc p l s) (hb : By z0 code (.slice A code.length cc)) (hp : 0 ≤ p ∧ p ≤ 800000) (hlen : code.length ≤ 2000) (hl : l 4 = false) (h3 : l 3 = true) : vcT Tryz.prog (.call 40 [.tmp 9, .const (.int .i64 4)]) (some 10) s (StpC z0 b A code.length cc p l 4) := by
  have hv : gt s.t 9 = .c (.v (.pointer (some ⟨b, 0, none⟩))) := (h.fct 3 (by omega) h3).1 (by simp)
  have := cnt_le l
  rw [vcT_call]
  refine callM.toT ?_
  refine callW 1000 (pick_s b A cc code (p + cnt l) 4 s.z (hb.mono h.z) (by omega) hlen (by omega)) (by simp only [argsV, ev, hv]; rfl) h.look.1 h.look.2 rfl ?_
  rintro v z' A' hz ⟨x, rfl, rfl, rfl, hx0, hx1, _⟩
  have hx1 := hx1 (by omega)
  exact VS.id (h.call 4 (sv := .c (.v (.int .i64 x))) (by omega) hl (by simp [cnt, upd, hl, b1]; try omega) (by simp [nms, upd]) (by simp [Fct, isI]; omega))
theorem cfg_7 {l : Nat → Bool} {s : St} (h : InvC z0 b A code.length cc p l s) (hb : By z0 code (.slice A code.length cc)) (hp : 0 ≤ p ∧ p ≤ 800000) (hlen : code.length ≤ 2000) (hl : l 7 = false) (h6 : l 6 = true) : vcT Tryz.prog (.call 40 [.tmp 12, .const (.int .i64 8)]) (some 13) s (StpC z0 b A code.length cc p l 7) := by
  have hv : gt s.t 12 = .c (.v (.pointer (some ⟨b, 0, none⟩))) := (h.fct 6 (by omega) h6).1 (by simp)
  have := cnt_le l
  rw [vcT_call]
  refine callM.toT ?_
  refine callW 1000 (pick_s b A cc code (p + cnt l) 8 s.z (hb.mono h.z) (by omega) hlen (by omega)) (by simp only [argsV, ev, hv]; rfl) h.look.1 h.look.2 rfl ?_
  rintro v z' A' hz ⟨x, rfl, rfl, rfl, hx0, hx1, _⟩
  have hx1 := hx1 (by omega)
  exact VS.id (h.call 7 (sv := .c (.v (.int .i64 x))) (by omega) hl (by simp [cnt, upd, hl, b1]; try omega) (by simp [nms, upd]) (by simp [Fct, isI]; omega))
theorem cfg_11 {l : Nat → Bool} {s : St} (h : InvC z0 b A code.length cc p l s) (hb : By z0 code (.slice A code.length cc)) (hp : 0 ≤ p ∧ p ≤ 800000) (hlen : code.length ≤ 2000) (hl : l 11 = false) (h10 : l 10 = true) : vcT Tryz.prog (.call 40 [.tmp 16, .const (.int .i64 3)]) (some 17) s (StpC z0 b A code.length cc p l 11) := by
  have hv : gt s.t 16 = .c (.v (.pointer (some ⟨b, 0, none⟩))) := (h.fct 10 (by omega) h10).1 (by simp)
  have := cnt_le l
  rw [vcT_call]
  refine callM.toT ?_
  refine callW 1000 (pick_s b A cc code (p + cnt l) 3 s.z (hb.mono h.z) (by omega) hlen (by omega)) (by simp only [argsV, ev, hv]; rfl) h.look.1 h.look.2 rfl ?_
  rintro v z' A' hz ⟨x, rfl, rfl, rfl, hx0, hx1, _⟩
  have hx1 := hx1 (by omega)
  exact VS.id (h.call 11 (sv := .c (.v (.int .i64 x))) (by omega) hl (by simp [cnt, upd, hl, b1]; try omega) (by simp [nms, upd]) (by simp [Fct, isI]; omega))
theorem cfg_15 {l : Nat → Bool} {s : St} (h : InvC z0 b A code.length cc p l s) (hb : By z0 code (.slice A code.length cc)) (hp : 0 ≤ p ∧ p ≤ 800000) (hlen : code.length ≤ 2000) (hl : l 15 = false) (h14 : l 14 = true) : vcT Tryz.prog (.call 40 [.tmp 20, .const (.int .i64 24)]) (some 21) s (StpC z0 b A code.length cc p l 15) := by
  have hv : gt s.t 20 = .c (.v (.pointer (some ⟨b, 0, none⟩))) := (h.fct 14 (by omega) h14).1 (by simp)
  have := cnt_le l
  rw [vcT_call]
  refine callM.toT ?_
  refine callW 1000 (pick_s b A cc code (p + cnt l) 24 s.z (hb.mono h.z) (by omega) hlen (by omega)) (by simp only [argsV, ev, hv]; rfl) h.look.1 h.look.2 rfl ?_
  rintro v z' A' hz ⟨x, rfl, rfl, rfl, hx0, hx1, _⟩
  have hx1 := hx1 (by omega)
  exact VS.id (h.call 15 (sv := .c (.v (.int .i64 x))) (by omega) hl (by simp [cnt, upd, hl, b1]; try omega) (by simp [nms, upd]) (by simp [Fct, isI]; omega))
theorem cfg_19 {l : Nat → Bool} {s : St} (h : InvC z0 b A code.length cc p l s) (hb : By z0 code (.slice A code.length cc)) (hp : 0 ≤ p ∧ p ≤ 800000) (hlen : code.length ≤ 2000) (hl : l 19 = false) (h18 : l 18 = true) : vcT Tryz.prog (.call 40 [.tmp 24, .const (.int .i64 2)]) (some 25) s (StpC z0 b A code.length cc p l 19) := by
  have hv : gt s.t 24 = .c (.v (.pointer (some ⟨b, 0, none⟩))) := (h.fct 18 (by omega) h18).1 (by simp)
  have := cnt_le l
  rw [vcT_call]
  refine callM.toT ?_
  refine callW 1000 (pick_s b A cc code (p + cnt l) 2 s.z (hb.mono h.z) (by omega) hlen (by omega)) (by simp only [argsV, ev, hv]; rfl) h.look.1 h.look.2 rfl ?_
  rintro v z' A' hz ⟨x, rfl, rfl, rfl, hx0, hx1, _⟩
  have hx1 := hx1 (by omega)
  exact VS.id (h.call 19 (sv := .c (.v (.int .i64 x))) (by omega) hl (by simp [cnt, upd, hl, b1]; try omega) (by simp [nms, upd]) (by simp [Fct, isI]; omega))
theorem cfg_23 {l : Nat → Bool} {s : St} (h : InvC z0 b A code.length cc p l s) (hb : By z0 code (.slice A code.length cc)) (hp : 0 ≤ p ∧ p ≤ 800000) (hlen : code.length ≤ 2000) (hl : l 23 = false) (h22 : l 22 = true) : vcT Tryz.prog (.call 40 [.tmp 28, .const (.int .i64 5)]) (some 29) s (StpC z0 b A code.length cc p l 23) := by
  have hv : gt s.t 28 = .c (.v (.pointer (some ⟨b, 0, none⟩))) := (h.fct 22 (by omega) h22).1 (by simp)
  have := cnt_le l
  rw [vcT_call]
  refine callM.toT ?_
  refine callW 1000 (pick_s b A cc code (p + cnt l) 5 s.z (hb.mono h.z) (by omega) hlen (by omega)) (by simp only [argsV, ev, hv]; rfl) h.look.1 h.look.2 rfl ?_
  rintro v z' A' hz ⟨x, rfl, rfl, rfl, hx0, hx1, _⟩
  have hx1 := hx1 (by omega)
  exact VS.id (h.call 23 (sv := .c (.v (.int .i64 x))) (by omega) hl (by simp [cnt, upd, hl, b1]; try omega) (by simp [nms, upd]) (by simp [Fct, isI]; omega))
theorem cfg_2 {l : Nat → Bool} {s : St} (h : InvC z0 b A nn cc p l s) (hl : l 2 = false) (h1 : l 1 = true) : vcT Tryz.prog (.bin .add (.const (.int .i64 1)) (.tmp 7)) (some 8) s (StpC z0 b A nn cc p l 2) := by
  have hf := h.fct 1 (by omega) h1
  have hi : isI 0 1 (gt s.t 7) := by simpa [Fct] using hf
  obtain ⟨x, hv, hx0, hx1⟩ := hi
  simp only [seval, go_sem, hv]
  exact VS.id (h.pure 2 (sv := .c (.v (.int .i64 (IntKind.i64.wrap (1 + x))))) (by omega) hl (by simp [cnt, upd]) (by simp [nms, upd]) (by rw [wrap_in (by omega) (by omega)]; simp [Fct, isI]; omega))
theorem cfg_5 {l : Nat → Bool} {s : St} (h : InvC z0 b A nn cc p l s) (hl : l 5 = false) (h4 : l 4 = true) : vcT Tryz.prog (.bin .add (.const (.int .i64 1)) (.tmp 10)) (some 11) s (StpC z0 b A nn cc p l 5) := by
  have hf := h.fct 4 (by omega) h4
  have hi : isI 0 3 (gt s.t 10) := by simpa [Fct] using hf
  obtain ⟨x, hv, hx0, hx1⟩ := hi
  simp only [seval, go_sem, hv]
  exact VS.id (h.pure 5 (sv := .c (.v (.int .i64 (IntKind.i64.wrap (1 + x))))) (by omega) hl (by simp [cnt, upd]) (by simp [nms, upd]) (by rw [wrap_in (by omega) (by omega)]; simp [Fct, isI]; omega))
theorem cfg_8 {l : Nat → Bool} {s : St} (h : InvC z0 b A nn cc p l s) (hl : l 8 = false) (h7 : l 7 = true) : vcT Tryz.prog (.bin .add (.const (.int .i64 1)) (.tmp 13)) (some 14) s (StpC z0 b A nn cc p l 8) := by
  have hf := h.fct 7 (by omega) h7
  have hi : isI 0 7 (gt s.t 13) := by simpa [Fct] using hf
  obtain ⟨x, hv, hx0, hx1⟩ := hi
  simp only [seval, go_sem, hv]
  exact VS.id (h.pure 8 (sv := .c (.v (.int .i64 (IntKind.i64.wrap (1 + x))))) (by omega) hl (by simp [cnt, upd]) (by simp [nms, upd]) (by rw [wrap_in (by omega) (by omega)]; simp [Fct, isI]; omega))
theorem cfg_16 {l : Nat → Bool} {s : St} (h : InvC z0 b A nn cc p l s) (hl : l 16 = false) (h15 : l 15 = true) : vcT Tryz.prog (.bin .add (.const (.int .i64 1)) (.tmp 21)) (some 22) s (StpC z0 b A nn cc p l 16) := by
  have hf := h.fct 15 (by omega) h15
  have hi : isI 0 23 (gt s.t 21) := by simpa [Fct] using hf
  obtain ⟨x, hv, hx0, hx1⟩ := hi
  simp only [seval, go_sem, hv]
  exact VS.id (h.pure 16 (sv := .c (.v (.int .i64 (IntKind.i64.wrap (1 + x))))) (by omega) hl (by simp [cnt, upd]) (by simp [nms, upd]) (by rw [wrap_in (by omega) (by omega)]; simp [Fct, isI]; omega))
theorem cfg_24 {l : Nat → Bool} {s : St} (h : InvC z0 b A nn cc p l s) (hl : l 24 = false) (h23 : l 23 = true) : vcT Tryz.prog (.bin .add (.const (.int .i64 1)) (.tmp 29)) (some 30) s (StpC z0 b A nn cc p l 24) := by
  have hf := h.fct 23 (by omega) h23
  have hi : isI 0 4 (gt s.t 29) := by simpa [Fct] using hf
  obtain ⟨x, hv, hx0, hx1⟩ := hi
  simp only [seval, go_sem, hv]
  exact VS.id (h.pure 24 (sv := .c (.v (.int .i64 (IntKind.i64.wrap (1 + x))))) (by omega) hl (by simp [cnt, upd]) (by simp [nms, upd]) (by rw [wrap_in (by omega) (by omega)]; simp [Fct, isI]; omega))
end
section
variable {z0 : Zc} {b : Nat} {A : Option Addr} {nn cc : Nat} {p : Int} {code : List Int}
theorem cfg_9 {l : Nat → Bool} {s : St} (h : InvC z0 b A nn cc p l s) (hl : l 9 = false) (h8 : l 8 = true) : vcT Tryz.prog (.bsl 3 1 3 [.int .i64 0] [(0, .tmp 14), (1, .const (.int .i64 3)), (2, .const (.int .i64 8))]) (some 15) s (StpC z0 b A nn cc p l 9) := by
  have hf := h.fct 8 (by omega) h8
  have hi : isI 1 8 (gt s.t 14) := by simpa [Fct] using hf
  obtain ⟨x, hv, hx0, hx1⟩ := hi
  simp only [seval, go_sem, hv]
  refine VS.frz s.n (e := 3) (cs := [.v (.int .i64 x), .v (.int .i64 3), .v (.int .i64 8)]) (by simp [look]) rfl fun b' z' hz hr => VS.id (h.bsl 9 (sv := .c (.s s.n 0 3 3)) (by omega) hl (by simp [cnt, upd]) (by simp [nms, upd, hl, b1]; try omega) hz ?_)
  have e : subV s.n b' (.c (.s s.n 0 3 3)) = .c (.v (.slice (some ⟨b', 0, none⟩) 3 3)) := by simp [subV, subC]
  rw [e]
  simp [Fct]
  exact ⟨⟨b', 0, rfl⟩, x, hr, hx0, hx1⟩
theorem cfg_17 {l : Nat → Bool} {s : St} (h : InvC z0 b A nn cc p l s) (hl : l 17 = false) (h8 : l 16 = true) : vcT Tryz.prog (.bsl 3 1 2 [.int .i64 0] [(0, .const (.int .i64 24)), (1, .tmp 22)]) (some 23) s (StpC z0 b A nn cc p l 17) := by
  have hf := h.fct 16 (by omega) h8
  have hi : isI 1 24 (gt s.t 22) := by simpa [Fct] using hf
  obtain ⟨x, hv, hx0, hx1⟩ := hi
  simp only [seval, go_sem, hv]
  refine VS.frz s.n (e := 3) (cs := [.v (.int .i64 24), .v (.int .i64 x)]) (by simp [look]) rfl fun b' z' hz hr => VS.id (h.bsl 17 (sv := .c (.s s.n 0 2 2)) (by omega) hl (by simp [cnt, upd]) (by simp [nms, upd, hl, b1]; try omega) hz ?_)
  have e : subV s.n b' (.c (.s s.n 0 2 2)) = .c (.v (.slice (some ⟨b', 0, none⟩) 2 2)) := by simp [subV, subC]
  rw [e]
  simp [Fct]
  exact ⟨⟨b', 0, rfl⟩, x, hr, hx0, hx1⟩
theorem cfg_12 {l : Nat → Bool} {s : St} (h : InvC z0 b A nn cc p l s) (hl : l 12 = false) (h9 : l 9 = true) (h11 : l 11 = true) : vcT Tryz.prog (.iad (.tmp 15) (.tmp 17) 1) (some 18) s (StpC z0 b A nn cc p l 12) := by
  have hf := h.fct 9 (by omega) h9
  obtain ⟨B, x, hv, hB, hr, hx⟩ : ∃ A x, gt s.t 15 = .c (.v (.slice A 3 3)) ∧ IsAt A ∧ RdAt s.z A 0 [.int .i64 x, .int .i64 3, .int .i64 8] ∧ 1 ≤ x ∧ x ≤ 8 := by simpa [Fct] using hf
  have hf := h.fct 11 (by omega) h11
  have hi : isI 0 2 (gt s.t 17) := by simpa [Fct] using hf
  obtain ⟨y, hw, hy0, hy1⟩ := hi
  simp only [seval, go_sem, hv, hw]
  refine ⟨⟨hy0, by omega, hB⟩, VS.id (h.pure 12 (sv := .c (.f B (y.toNat * 1))) (by omega) hl (by simp [cnt, upd]) (by simp [nms, upd]) ?_)⟩
  have : y = 0 ∨ y = 1 ∨ y = 2 := by omega
  simp [Fct]
  rcases this with rfl | rfl | rfl
  · exact ⟨B, 0, x, rfl, hr.cell 0 rfl, hx⟩
  · exact ⟨B, 1, 3, rfl, hr.cell 1 rfl, by omega, by omega⟩
  · exact ⟨B, 2, 8, rfl, hr.cell 2 rfl, by omega, by omega⟩
theorem cfg_20 {l : Nat → Bool} {s : St} (h : InvC z0 b A nn cc p l s) (hl : l 20 = false) (h9 : l 17 = true) (h11 : l 19 = true) : vcT Tryz.prog (.iad (.tmp 23) (.tmp 25) 1) (some 26) s (StpC z0 b A nn cc p l 20) := by
  have hf := h.fct 17 (by omega) h9
  obtain ⟨B, x, hv, hB, hr, hx⟩ : ∃ A x, gt s.t 23 = .c (.v (.slice A 2 2)) ∧ IsAt A ∧ RdAt s.z A 0 [.int .i64 24, .int .i64 x] ∧ 1 ≤ x ∧ x ≤ 24 := by simpa [Fct] using hf
  have hf := h.fct 19 (by omega) h11
  have hi : isI 0 1 (gt s.t 25) := by simpa [Fct] using hf
  obtain ⟨y, hw, hy0, hy1⟩ := hi
  simp only [seval, go_sem, hv, hw]
  refine ⟨⟨hy0, by omega, hB⟩, VS.id (h.pure 20 (sv := .c (.f B (y.toNat * 1))) (by omega) hl (by simp [cnt, upd]) (by simp [nms, upd]) ?_)⟩
  have : y = 0 ∨ y = 1 := by omega
  simp [Fct]
  rcases this with rfl | rfl
  · exact ⟨B, 0, 24, rfl, hr.cell 0 rfl, by omega, by omega⟩
  · exact ⟨B, 1, x, rfl, hr.cell 1 rfl, hx⟩
theorem cfg_13 {l : Nat → Bool} {s : St} (h : InvC z0 b A nn cc p l s) (hl : l 13 = false) (hj : l 12 = true) : vcT Tryz.prog (.ld (.tmp 18) 1 false) (some 19) s (StpC z0 b A nn cc p l 13) := by
  have hf := h.fct 12 (by omega) hj
  have hi : isF s.z 8 (gt s.t 18) := by simpa [Fct] using hf
  obtain ⟨B, o, x, hv, hr, hx0, hx1⟩ := hi
  simp only [seval, go_sem, hv]
  refine ldF.one _ (.inl hr) ?_
  exact VS.id (h.pure 13 (sv := .c (.v (.int .i64 x))) (by omega) hl (by simp [cnt, upd]) (by simp [nms, upd]) (by simp [Fct, isI]; omega))
theorem cfg_21 {l : Nat → Bool} {s : St} (h : InvC z0 b A nn cc p l s) (hl : l 21 = false) (hj : l 20 = true) : vcT Tryz.prog (.ld (.tmp 26) 1 false) (some 27) s (StpC z0 b A nn cc p l 21) := by
  have hf := h.fct 20 (by omega) hj
  have hi : isF s.z 24 (gt s.t 26) := by simpa [Fct] using hf
  obtain ⟨B, o, x, hv, hr, hx0, hx1⟩ := hi
  simp only [seval, go_sem, hv]
  refine ldF.one _ (.inl hr) ?_
  exact VS.id (h.pure 21 (sv := .c (.v (.int .i64 x))) (by omega) hl (by simp [cnt, upd]) (by simp [nms, upd]) (by simp [Fct, isI]; omega))
theorem cfg_25 {l : Nat → Bool} {s : St} (h : InvC z0 b A nn cc p l s) (hl : l 25 = false) (h2 : l 2 = true) (h5 : l 5 = true) (h13 : l 13 = true) (h21 : l 21 = true) (h24 : l 24 = true) : vcT Tryz.prog (.bld [.int .i64 0, .int .i64 0, .int .i64 0, .int .i64 0, .int .i64 0] [(0, 1, .tmp 8), (1, 1, .tmp 11), (2, 1, .tmp 19), (3, 1, .tmp 27), (4, 1, .tmp 30)]) (some 31) s (StpC z0 b A nn cc p l 25) := by
  obtain ⟨a1, v1, k1, m1⟩ : isI 1 2 (gt s.t 8) := by simpa [Fct] using h.fct 2 (by omega) h2
  obtain ⟨a2, v2, k2, m2⟩ : isI 1 4 (gt s.t 11) := by simpa [Fct] using h.fct 5 (by omega) h5
  obtain ⟨a3, v3, k3, m3⟩ : isI 1 8 (gt s.t 19) := by simpa [Fct] using h.fct 13 (by omega) h13
  obtain ⟨a4, v4, k4, m4⟩ : isI 1 24 (gt s.t 27) := by simpa [Fct] using h.fct 21 (by omega) h21
  obtain ⟨a5, v5, k5, m5⟩ : isI 1 5 (gt s.t 30) := by simpa [Fct] using h.fct 24 (by omega) h24
  simp only [seval, go_sem, v1, v2, v3, v4, v5]
  refine VS.id (h.pure 25 (sv := .a [.v (.int .i64 a1), .v (.int .i64 a2), .v (.int .i64 a3), .v (.int .i64 a4), .v (.int .i64 a5)]) (by omega) hl (by simp [cnt, upd]) (by simp [nms, upd]) ?_)
  simp only [Fct]
  simp
  exact ⟨⟨a1, a2, a3, a4, a5⟩, ⟨rfl, rfl, rfl, rfl, rfl⟩, by dsimp only; omega, ⟨k2, m2⟩, ⟨k3, m3⟩, ⟨k4, m4⟩, ⟨k5, m5⟩⟩
theorem Le.perm {s : St} {L' : Ents} (hL : LeL L' s.L) : Le s ⟨s.t, L', s.z, s.n⟩ := fun C ρ a w hs => by
  obtain ⟨F, h1, h2⟩ := hs.mem
  obtain ⟨F', h3, h4⟩ := LeL.holds hL h1
  exact ⟨ρ, hs.df, hs.fr, hs.nm, F', h3, h2.less h4⟩
theorem cfg_26 {l : Nat → Bool} {s : St} (h : InvC z0 b A nn cc p l s) (hl : l 26 = false) : vcT Tryz.prog (.alc 24 [.int .i64 0, .int .i64 0, .int .i64 0, .int .i64 0, .int .i64 0]) (some 5) s (StpC z0 b A nn cc p l 26) := by
  have hn := h.n
  have hn4 := nms_le l
  have hn1 : 1 ≤ s.n := by rw [hn]; unfold nms; omega
  simp only [seval, go_sem]
  have hL : s.L = [(1000, .own (starL [rdA b A nn cc (p + cnt l)])), (0, .cells 24 z5)] ∧ l 27 = false := by
    rcases h.L with ⟨_, h2, h3⟩ | ⟨h1, _⟩ | ⟨h1, _⟩
    · exact ⟨h3, h2⟩
    · rw [h1] at hl; cases hl
    · rw [h1 26 (by omega)] at hl; cases hl
  rw [hL.1]
  refine VS.le (Le.perm (L' := [(1000, .own (starL [rdA b A nn cc (p + cnt l)])), (s.n, .cells 24 z5), (0, .cells 24 z5)]) ?_) ?_
  · simp [LeL, look, del, show s.n ≠ 1000 by omega, show s.n ≠ 0 by omega]
  · have hc : cnt (upd l 26) = cnt l := by simp [cnt, upd]
    refine ⟨h.z, by simp [nms, upd, hl, b1] at hn ⊢; omega, by rw [st_len]; exact h.len, ?_, ?_, ?_, fun j hj hlj => ?_, ?_⟩
    · rw [gt_st_ne _ (by omega)]; exact h.g0
    · rw [gt_st_ne _ (by omega)]; exact h.g1
    · rw [gt_st_ne _ (by omega)]; exact h.g4
    · rw [gt_st_ne _ (by omega)]; rw [upd_ne l (by omega)] at hlj; exact h.fct j hj hlj
    · rw [hc]
      exact .inr (.inl ⟨upd_eq _ _, by rw [upd_ne l (by omega)]; exact hL.2, s.n, hn1, by dsimp only; omega, by rw [gt_st_eq _ (by rw [h.len]; omega)], rfl⟩)
theorem cfg_27 {l : Nat → Bool} {s : St} (h : InvC z0 b A nn cc p l s) (hl : l 27 = false) (ha : ∀ j, j < 27 → l j = true) : vcT Tryz.prog (.sto (.tmp 5) (.tmp 31) 5) none s (StpC z0 b A nn cc p l 27) := by
  have hn := h.n
  have hn4 := nms_le l
  obtain ⟨c, hv, hc⟩ : ∃ c : Cfg, gt s.t 31 = .a [.v (.int .i64 c.mode), .v (.int .i64 c.win), .v (.int .i64 c.mps), .v (.int .i64 c.mtu), .v (.int .i64 c.tri)] ∧ CfgI c := by simpa [Fct] using h.fct 25 (by omega) (ha 25 (by omega))
  obtain ⟨k, hk1, hk2, g5, hL⟩ : ∃ k, 1 ≤ k ∧ k < s.n ∧ gt s.t 5 = .c (.p k 0) ∧ s.L = [(1000, .own (starL [rdA b A nn cc (p + cnt l)])), (k, .cells 24 z5), (0, .cells 24 z5)] := by
    rcases h.L with ⟨h1, _⟩ | ⟨_, _, k, h3⟩ | ⟨h1, _⟩
    · rw [ha 26 (by omega)] at h1; cases h1
    · exact ⟨k, h3⟩
    · rw [h1 27 (by omega)] at hl; cases hl
  simp only [seval, go_sem, g5, hv, hL]
  have e1 : (1000 = k) = False := by simp; omega
  simp only [seval, go_sem, e1]
  have e2 : del k s.L = [(1000, .own (starL [rdA b A nn cc (p + cnt l)])), (0, .cells 24 z5)] := by rw [hL]; simp [del, show (1000 : Nat) ≠ k by omega]
  rw [e2]
  refine VS.le (Le.perm (L' := [(1000, .own (starL [rdA b A nn cc (p + cnt l)])), (k, .cells 24 (c5 c)), (0, .cells 24 z5)]) ?_) ?_
  · simp [LeL, look, del, show k ≠ 1000 by omega, show k ≠ 0 by omega]
  · have hc' : cnt (upd l 27) = cnt l := by simp [cnt, upd]
    refine ⟨h.z, by simpa [nms, upd] using hn, h.len, h.g0, h.g1, h.g4, fun j hj hlj => ?_, ?_⟩
    · rw [upd_ne l (by omega)] at hlj; exact h.fct j hj hlj
    · rw [hc']
      refine .inr (.inr ⟨fun j hj => ?_, k, c, hk1, hk2, g5, hc, rfl⟩)
      by_cases e : j = 27
      · subst e; exact upd_eq _ _
      · rw [upd_ne l e]; exact ha j (by omega)
end
theorem leT_any : ∀ (l : List SV) (n : Nat), l.length = n → LeT l (List.replicate n .any)
  | [], 0, _ => trivial
  | _ :: l, n + 1, h => ⟨.inl rfl, leT_any l n (by simpa using h)⟩
  | [], n + 1, h => by cases h
  | _ :: _, 0, h => by cases h
theorem leT_st {v : SV} : ∀ {l m : List SV} {n : Nat}, LeT l m → gt l n = v → LeT l (st m n v)
  | [], [], _, h, _ => h
  | x :: l, y :: m, 0, h, e => ⟨.inr e, h.2⟩
  | x :: l, y :: m, n + 1, h, e => ⟨h.1, leT_st h.2 e⟩
  | [], _ :: _, _, h, _ => h.elim
  | _ :: _, [], _, h, _ => h.elim
theorem cfg_s (b : Nat) (A : Option Addr) (cc : Nat) (code : List Int) (p : Int) (z : Zc) (hb : By z code (.slice A code.length cc)) (hp : 0 ≤ p ∧ p ≤ 800000) (hlen : code.length ≤ 2000) :
    Spec Tryz.prog 38 [.pointer (some ⟨b, 0, none⟩), .int .i64 0] z (starL [rdA b A code.length cc p]) fun v z' A' => ∃ (c : Cfg) (p' : Int), v = vCfg c ∧ A' = starL [rdA b A code.length cc p'] ∧ CfgI c ∧ p ≤ p' ∧ p' ≤ p + 7 := by
  refine spec_mid Tryz.func38 md38_ok fr38_ok Tryz.ntmps38 (InvC z b A code.length cc p) ?_ ?_ ?_
  · simp only [seval, go_sem]
    rw [endK_normal]
    refine VS.le (Le.perm (L' := [(1000, .own (starL [rdA b A code.length cc p])), (0, .cells 24 z5)]) ⟨rfl, rfl, trivial⟩) ?_
    refine ⟨Zc.rfl' _, rfl, rfl, rfl, rfl, rfl, fun i _ h => (by cases h), .inl ⟨rfl, rfl, ?_⟩⟩
    simp [cnt, b1, del]
  · intro l s i r hr hI hl ha
    rcases i with _ | i
    · obtain rfl := Option.some.inj (show some _ = some r from hr); exact cfg_0 hI hl
    rcases i with _ | i
    · obtain rfl := Option.some.inj (show some _ = some r from hr); exact cfg_1 hI hb hp hlen hl (ha 0 (by decide))
    rcases i with _ | i
    · obtain rfl := Option.some.inj (show some _ = some r from hr); exact cfg_2 hI hl (ha 1 (by decide))
    rcases i with _ | i
    · obtain rfl := Option.some.inj (show some _ = some r from hr); exact cfg_3 hI hl
    rcases i with _ | i
    · obtain rfl := Option.some.inj (show some _ = some r from hr); exact cfg_4 hI hb hp hlen hl (ha 3 (by decide))
    rcases i with _ | i
    · obtain rfl := Option.some.inj (show some _ = some r from hr); exact cfg_5 hI hl (ha 4 (by decide))
    rcases i with _ | i
    · obtain rfl := Option.some.inj (show some _ = some r from hr); exact cfg_6 hI hl
    rcases i with _ | i
    · obtain rfl := Option.some.inj (show some _ = some r from hr); exact cfg_7 hI hb hp hlen hl (ha 6 (by decide))
    rcases i with _ | i
    · obtain rfl := Option.some.inj (show some _ = some r from hr); exact cfg_8 hI hl (ha 7 (by decide))
    rcases i with _ | i
    · obtain rfl := Option.some.inj (show some _ = some r from hr); exact cfg_9 hI hl (ha 8 (by decide))
    rcases i with _ | i
    · obtain rfl := Option.some.inj (show some _ = some r from hr); exact cfg_10 hI hl
    rcases i with _ | i
    · obtain rfl := Option.some.inj (show some _ = some r from hr); exact cfg_11 hI hb hp hlen hl (ha 10 (by decide))
    rcases i with _ | i
    · obtain rfl := Option.some.inj (show some _ = some r from hr); exact cfg_12 hI hl (ha 9 (by decide)) (ha 11 (by decide))
    rcases i with _ | i
    · obtain rfl := Option.some.inj (show some _ = some r from hr); exact cfg_13 hI hl (ha 12 (by decide))
    rcases i with _ | i
    · obtain rfl := Option.some.inj (show some _ = some r from hr); exact cfg_14 hI hl
    rcases i with _ | i
    · obtain rfl := Option.some.inj (show some _ = some r from hr); exact cfg_15 hI hb hp hlen hl (ha 14 (by decide))
    rcases i with _ | i
    · obtain rfl := Option.some.inj (show some _ = some r from hr); exact cfg_16 hI hl (ha 15 (by decide))
    rcases i with _ | i
    · obtain rfl := Option.some.inj (show some _ = some r from hr); exact cfg_17 hI hl (ha 16 (by decide))
    rcases i with _ | i
    · obtain rfl := Option.some.inj (show some _ = some r from hr); exact cfg_18 hI hl
    rcases i with _ | i
    · obtain rfl := Option.some.inj (show some _ = some r from hr); exact cfg_19 hI hb hp hlen hl (ha 18 (by decide))
    rcases i with _ | i
    · obtain rfl := Option.some.inj (show some _ = some r from hr); exact cfg_20 hI hl (ha 17 (by decide)) (ha 19 (by decide))
    rcases i with _ | i
    · obtain rfl := Option.some.inj (show some _ = some r from hr); exact cfg_21 hI hl (ha 20 (by decide))
    rcases i with _ | i
    · obtain rfl := Option.some.inj (show some _ = some r from hr); exact cfg_22 hI hl
    rcases i with _ | i
    · obtain rfl := Option.some.inj (show some _ = some r from hr); exact cfg_23 hI hb hp hlen hl (ha 22 (by decide))
    rcases i with _ | i
    · obtain rfl := Option.some.inj (show some _ = some r from hr); exact cfg_24 hI hl (ha 23 (by decide))
    rcases i with _ | i
    · obtain rfl := Option.some.inj (show some _ = some r from hr); exact cfg_25 hI hl (ha 2 (by decide)) (ha 5 (by decide)) (ha 13 (by decide)) (ha 21 (by decide)) (ha 24 (by decide))
    rcases i with _ | i
    · obtain rfl := Option.some.inj (show some _ = some r from hr); exact cfg_26 hI hl
    rcases i with _ | i
    · obtain rfl := Option.some.inj (show some _ = some r from hr); exact cfg_27 hI hl (fun j hj => ha j (by simp only [List.mem_cons, List.not_mem_nil, or_false]; omega))
    · cases hr
  · intro l s hall hI
    obtain ⟨k, c, hk1, hk2, g5, hc, hL⟩ : ∃ k c, 1 ≤ k ∧ k < s.n ∧ gt s.t 5 = .c (.p k 0) ∧ CfgI c ∧ s.L = [(1000, .own (starL [rdA b A code.length cc (p + cnt l)])), (k, .cells 24 (c5 c)), (0, .cells 24 z5)] := by
      rcases hI.L with ⟨h1, _⟩ | ⟨_, h1, _⟩ | ⟨_, h⟩
      · rw [hall 26 (by decide)] at h1; cases h1
      · rw [hall 27 (by decide)] at h1; cases h1
      · exact h
    have hn4 := nms_le l
    have hc7 := cnt_le l
    have hn := hI.n
    refine VS.le (s' := ⟨updL [(0, .c (.v (.pointer (some ⟨b, 0, none⟩)))), (1, .c (.v (.int .i64 0))), (4, .c (.p 0 0)), (5, .c (.p k 0))] (List.replicate 76 .any), s.L, s.z, s.n⟩) (Le.of ?_ ?_ rfl (Nat.le_refl _) ⟨?_, ?_⟩) ?_
    · exact leT_st (leT_st (leT_st (leT_st (leT_any _ _ hI.len) hI.g0) hI.g1) hI.g4) g5
    · rw [hL]; simp [LeL, look, del, show k ≠ 1000 by omega, show k ≠ 0 by omega]
    · simp [updL, st, List.replicate, SV.wf, SC.wf]; omega
    · rw [hL]; simp [wfL, SC.wf]; omega
    · have hk : k = 1 ∨ k = 2 ∨ k = 3 := by omega
      obtain ⟨t, L, z', n⟩ := s
      dsimp only at *
      subst hL
      have hpp : p ≤ p + (cnt l : Int) ∧ p + (cnt l : Int) ≤ p + 7 := by omega
      generalize p + (cnt l : Int) = p' at *
      rcases hk with rfl | rfl | rfl
      · simp only [seval, go_sem, fr38]
        refine tT ?_; refine callW 1000 (odd0 b A code.length cc p' z') rfl rfl rfl rfl ?_; rintro v z1 A1 hz1 ⟨rfl, rfl, rfl⟩; refine gO ?_
        refine fQ ?_
        exact ⟨c, p', rfl, rfl, hc, by omega, by omega⟩
      · simp only [seval, go_sem, fr38]
        refine tT ?_; refine callW 1000 (odd0 b A code.length cc p' z') rfl rfl rfl rfl ?_; rintro v z1 A1 hz1 ⟨rfl, rfl, rfl⟩; refine gO ?_
        refine fQ ?_
        exact ⟨c, p', rfl, rfl, hc, by omega, by omega⟩
      · simp only [seval, go_sem, fr38]
        refine tT ?_; refine callW 1000 (odd0 b A code.length cc p' z') rfl rfl rfl rfl ?_; rintro v z1 A1 hz1 ⟨rfl, rfl, rfl⟩; refine gO ?_
        refine fQ ?_
        exact ⟨c, p', rfl, rfl, hc, by omega, by omega⟩
set_option maxHeartbeats 4000000
def eRep : Rep Evt where
  sz := 5
  K := fun z e cs => ∃ v, cs = [.int .i64 e.kind, .int .i64 e.who, .int .i64 e.at_, .int .i64 e.v, v] ∧ By z e.data v
  len := by rintro z x cs ⟨v, rfl, _⟩; rfl
  one := by rintro z x cs ⟨v, rfl, h⟩ u hu; simp at hu; rcases hu with rfl | rfl | rfl | rfl | rfl; rfl; rfl; rfl; rfl; exact h.one
  mono := by rintro z z' x cs hz ⟨v, rfl, h⟩; exact ⟨v, rfl, Sl.mono hz h⟩
theorem WldR.mono {z z' : Zc} {e0 e1 : End} {n0 n1 : List Msg} {m : WM} (hz : z ≤ z') (h : WldR z e0 e1 n0 n1 m) : WldR z' e0 e1 n0 n1 m := ⟨h.e0.mono hz, h.e1.mono hz, h.n0, h.n1⟩
theorem atyV : AppTy Tryz.prog 25 38 5 := AppTy.of (by kernel_rfl)
structure PlayS where
  k : Nat
  p : Int
  evs : List Evt
  cs : List Value
  A : Option Addr
  C : Nat
  e0 : End
  e1 : End
  n0 : List Msg
  n1 : List Msg
  link : Int
  m : WM
  z : Zc
def PlayH (v : Value) (z : Zc) (A : Asrt) : Prop := ∃ (c : Cfg) (evs : List Evt) (B : Option Addr) (k : Nat) (link : Int) (m : WM) (e0 e1 : End) (n0 n1 : List Msg), v = .tuple #[vCfg c, .slice B evs.length k, wldV c link m] ∧ A = wldA e0 e1 n0 n1 m ∧ WldR z e0 e1 n0 n1 m ∧ WldI ⟨c, [e0, e1], [n0, n1], link⟩ ∧ Sl eRep z evs (.slice B evs.length k) ∧ CfgI c ∧ c.mode = 2 ∧ (∀ e ∈ evs, EvC e) ∧ evs.length ≤ 140
theorem wldH_of {c : Cfg} {w : Wld} {u : Value} {z : Zc} {A : Asrt} (h : WldH c w u z A) (hI : WldI w) : ∃ e0 e1 n0 n1 m link, u = wldV c link m ∧ A = wldA e0 e1 n0 n1 m ∧ WldR z e0 e1 n0 n1 m ∧ WldI ⟨c, [e0, e1], [n0, n1], link⟩ := by
  obtain ⟨e0, e1, n0, n1, m, h1, h2, h3, h4, h5, h6⟩ := h
  obtain ⟨c', es, ns, link⟩ := w
  dsimp only at h1 h2 h3 h4
  subst h1 h2 h3
  exact ⟨e0, e1, n0, n1, m, link, h4, h5, h6, hI⟩
theorem play_s (b : Nat) (A : Option Addr) (cc : Nat) (code : List Int) (z : Zc) (hb : By z code (.slice A code.length cc)) (hlen : code.length ≤ 2000) :
    Spec Tryz.prog 18 [.pointer (some ⟨b, 0, none⟩), .int .i64 140, .int .i64 2, .bool false, .bool false] z (starL [rdA b A code.length cc 0]) PlayH := by
  (refine spec_enter1 Tryz.func18 ic18_ok fr18_ok Tryz.ntmps18 ?_; simp only [seval, go_sem, ic18, fr18])
  refine gO ?_
  refine tT ?_; refine callW 1000 (cfg_s b A cc code 0 z hb (by omega) hlen) rfl rfl rfl rfl ?_; rintro v1 z1 A1 hz1 ⟨⟨q1, q2, q3, q4, q5⟩, p1, rfl, rfl, hc1, hp1, hp1'⟩; refine gO ?_
  try simp only [seval, go_sem, show decide ((2 : Int) > 0) = true from rfl]
  refine gO ?_
  have hc : CfgI ⟨2, q2, q3, q4, q5⟩ := ⟨.inr rfl, hc1.win, hc1.mps, hc1.mtu, hc1.tri⟩
  refine tT ?_; refine callO 1001 ((new_s ⟨2, q2, q3, q4, q5⟩ z1 (cfgOk_iff.2 hc)).mono fun _ _ _ _ h => wldH_of h (wldNew_I hc)) rfl rfl rfl ?_; rintro v2 z2 A2 hz2 ⟨e0, e1, n0, n1, m, link, rfl, rfl, hR, hW⟩; refine gO ?_
  refine tT ?_; refine callW 1000 (pick_s b A cc code p1 140 z2 ((hb.mono hz1).mono hz2) (by omega) hlen (by omega)) rfl rfl rfl rfl ?_; rintro v3 z3 A3 hz3 ⟨x, rfl, rfl, rfl, hx0, hx1, _⟩; refine gO ?_
  have hx1 := hx1 (by omega)
  obtain ⟨k0, rfl⟩ := Int.eq_ofNat_of_zero_le hx0
  refine loopV.toRow 90 4 rfl rfl (m := 0) (sz := 5) rfl (by omega) (fun b0 => ?_)
  simp only [seval, go_sem, rowSt, subV, subC, subE, subL]
  refine loop_upd (ι := PlayS) (n := 5) (fun s => z2 ≤ s.z ∧ s.k + s.evs.length = k0 ∧ p1 ≤ s.p ∧ s.p ≤ p1 + 1 + 200 * s.evs.length ∧ Els eRep s.z s.evs s.cs ∧ s.evs.length ≤ s.C ∧ (∀ e ∈ s.evs, EvC e) ∧ WldR s.z s.e0 s.e1 s.n0 s.n1 s.m ∧ WldI ⟨⟨2, q2, q3, q4, q5⟩, [s.e0, s.e1], [s.n0, s.n1], s.link⟩) (fun s => [(15, .c (.v (.slice s.A s.evs.length s.C))), (16, .c (.v (.int .i64 s.k)))])
    (fun s => [(1000, .own (starL [rdA b A code.length cc s.p])), (1001, .own (wldA s.e0 s.e1 s.n0 s.n1 s.m)), (90, .own (rowA 38 5 (.slice s.A s.evs.length s.C) s.evs.length s.cs)), (3, .cells 31 [.v (.int .i64 2), .v (.int .i64 q2), .v (.int .i64 q3), .v (.int .i64 q4), .v (.int .i64 q5), .v (.slice s.m.E 2 s.m.EC), .v (.slice s.m.N 2 s.m.NC), .v (.int .i64 s.link)]), (2, .cells 24 [.v (.int .i64 2), .v (.int .i64 q2), .v (.int .i64 q3), .v (.int .i64 q4), .v (.int .i64 q5)]), (1, .cells 31 [.v (.int .i64 0), .v (.int .i64 0), .v (.int .i64 0), .v (.int .i64 0), .v (.int .i64 0), .v (.slice none 0 0), .v (.slice none 0 0), .v (.int .i64 0)]), (0, .cells 24 z5)])
    (fun s => s.z) (fun s => s.k) ⟨k0, p1 + 1, [], [], some ⟨b0, 0, none⟩, 0, e0, e1, n0, n1, link, m, z2⟩ ⟨Zc.rfl' _, by simp, by dsimp only; omega, by simp, rfl, Nat.le_refl _, by simp, hR, hW⟩ (by (simp only [wrI, wrR, anyL, st, List.append_nil, List.nil_append, List.cons_append]); exact rfl) ?_ ?_
  · simp only [List.length_nil]
    exact lX
  · rintro ⟨k, p, evs, cs, EA, EC, e0, e1, n0, n1, link, m, y⟩ ⟨hy, hk, hp2, hp3, hE, hEC, hEv, hR, hW⟩
    dsimp only at *
    refine gO ?_
    (with_reducible refine condI.split (fun hg => ?_) (fun hg => ?_) <;> (try simp only [hg]) <;> (try simp only [seval, go_sem]))
    · have hk0 : 0 < k := by have := of_decide_eq_true hg; omega
      refine gO ?_
      refine tT ?_; refine callW 1000 (event_s b A cc code p ⟨2, q2, q3, q4, q5⟩ link m y (((hb.mono hz1).mono hz2).mono hy) (by omega) hlen ⟨hc.mtu.1, hc.mtu.2⟩) rfl rfl rfl rfl ?_; rintro v4 z4 A4 hz4 ⟨eV, B, bn, bc, p', rfl, rfl, hby, hev, hp4, hp5⟩; refine gO ?_
      have hr4 := WldR.mono hz4 hR
      refine aT ?_; (refine appM_newF 90 atyV rfl rfl rfl rfl rfl rfl rfl (by simp [Value.oneCell']) (by omega) (fun A6 c6 hc6 hat6 => ?_)); simp only [seval, go_sem]
      refine gO ?_
      obtain ⟨hk1, hwho, hdl⟩ := hev
      have hEv' : ∀ x ∈ evs ++ [eV], EvC x := fun x hx => by
        rcases List.mem_append.1 hx with hx | hx
        · exact hEv x hx
        · rw [List.mem_singleton.1 hx]; exact ⟨hk1, hwho, hdl⟩
      have hW' := step_I (g := true) hW eV
      have hwk : IntKind.i64.wrap ((k : Int) - 1) = ((k - 1 : Nat) : Int) := by rw [wrap_in (by omega) (by omega)]; omega
      rcases hwho with hw | hw
      · refine tT ?_; refine callW 1001 ((l9step_c0 ⟨2, q2, q3, q4, q5⟩ link e0 e1 n0 n1 m eV (.slice B bn bc) z4 hby (by omega) hr4 hW rfl hw ⟨hk1.1, by omega⟩).mono fun _ _ _ _ h => wldH_of h hW') rfl rfl rfl rfl ?_; rintro v5 z5 A5 hz5 ⟨e0', e1', n0', n1', m', link', rfl, rfl, hR5, hW5⟩; refine gO ?_
        refine gO ?_
        simp only [hwk]
        refine ⟨⟨k - 1, p', evs ++ [eV], cs ++ [.int .i64 eV.kind, .int .i64 eV.who, .int .i64 eV.at_, .int .i64 eV.v, .slice B bn bc], A6, c6, e0', e1', n0', n1', link', m', z5⟩, ⟨Zc.trans' hy (Zc.trans' hz4 hz5), by dsimp only; rw [List.length_append, List.length_singleton]; omega, by dsimp only; omega, by dsimp only; rw [List.length_append, List.length_singleton]; omega, ?_, by dsimp only; rw [List.length_append, List.length_singleton]; omega, hEv', hR5, hW5⟩, by dsimp only; omega, ?_⟩
        · exact Els.append (hE.mono (Zc.trans' hz4 hz5)) (Els.single ⟨_, rfl, hby.mono hz5⟩)
        · simp only [List.length_append, List.length_singleton]
          exact lX
      · refine tT ?_; refine callW 1001 ((l9step_c1 ⟨2, q2, q3, q4, q5⟩ link e0 e1 n0 n1 m eV (.slice B bn bc) z4 hby (by omega) hr4 hW rfl hw ⟨hk1.1, by omega⟩).mono fun _ _ _ _ h => wldH_of h hW') rfl rfl rfl rfl ?_; rintro v5 z5 A5 hz5 ⟨e0', e1', n0', n1', m', link', rfl, rfl, hR5, hW5⟩; refine gO ?_
        refine gO ?_
        simp only [hwk]
        refine ⟨⟨k - 1, p', evs ++ [eV], cs ++ [.int .i64 eV.kind, .int .i64 eV.who, .int .i64 eV.at_, .int .i64 eV.v, .slice B bn bc], A6, c6, e0', e1', n0', n1', link', m', z5⟩, ⟨Zc.trans' hy (Zc.trans' hz4 hz5), by dsimp only; rw [List.length_append, List.length_singleton]; omega, by dsimp only; omega, by dsimp only; rw [List.length_append, List.length_singleton]; omega, ?_, by dsimp only; rw [List.length_append, List.length_singleton]; omega, hEv', hR5, hW5⟩, by dsimp only; omega, ?_⟩
        · exact Els.append (hE.mono (Zc.trans' hz4 hz5)) (Els.single ⟨_, rfl, hby.mono hz5⟩)
        · simp only [List.length_append, List.length_singleton]
          exact lX
    · have hk0 : k = 0 := by have := of_decide_eq_false hg; omega
      subst hk0
      (try simp only [seval, go_sem])
      refine vsI.frzA 1001 rfl (RdA.wld hR) rfl (fun z6 hz6 hP6 => ?_)
      have hP6 := hP6 hz6
      simp only [seval, go_sem]
      (refine vsI.frzR 90 rfl rfl (fun A7 c7 z7 hv7 hc7 hz7 hr7 => ?_)); (first | subst hv7 | (injection hv7 with hv_1 hv_2 hv_3; subst hv_1; subst hv_3)); refine gO ?_
      refine tT ?_; refine callO 1001 ((copy_s ⟨2, q2, q3, q4, q5⟩ link e0 e1 n0 n1 m z7 (hP6.mono hz7) hW).mono fun _ _ _ _ h => wldH_of h hW) rfl rfl rfl ?_; rintro v8 z8 A8 hz8 ⟨e0', e1', n0', n1', m', link', rfl, rfl, hR8, hW8⟩; refine gO ?_
      (((try simp only [seval, go_sem]);repeat((with_reducible first|refine vJ ?_|refine vK ?_);try simp only [seval, go_sem])); refine FinV.own 1001 rfl ?_; simp only [finE, finS, gt, look, SV.toV, SC.toV, allV, tupV, zq1, zq2, zq3, zq4, Nat.reduceAdd, Nat.reduceEqDiff, reduceCtorEq, if_true, if_false, reduceIte, Nat.succ_ne_self, true_and, zq5, zq7, zq8])
      exact ⟨⟨2, q2, q3, q4, q5⟩, evs, _, _, link', m', e0', e1', n0', n1', rfl, rfl, hR8, hW8, ⟨_, _, _, rfl, hc7, hE.mono (Zc.trans' hz6 (Zc.trans' hz7 hz8)), hr7.mono hz8⟩, hc, rfl, hEv, by omega⟩
theorem drawCredit_s (code : List Int) (v : Value) (z : Zc) (h : By z code v) (hl : code.length ≤ 1000000000) : PSpec Tryz.prog 9 [v] z fun u z' => ∃ (c : Cfg) (evs : List Evt) (B : Option Addr) (k : Nat), u = .tuple #[vCfg c, .slice B evs.length k] ∧ Sl eRep z' evs (.slice B evs.length k) ∧ CfgI c ∧ c.mode = 2 ∧ (∀ e ∈ evs, EvC e) ∧ evs.length ≤ 140 := by
  obtain ⟨A0, c0, rfl, hc0, hB0, hr0⟩ := h.form
  (refine pspec_enter Tryz.func9 ic9_ok fr9_ok Tryz.ntmps9 ?_; simp only [seval, go_sem, ic9, fr9])
  refine gO ?_
  refine tT ?_; refine callO 1000 (open_s code _ z h hl) rfl rfl rfl ?_; rintro u z1 A1 hz1 ⟨b, A, c, cd, rfl, rfl, hcd, hby⟩; refine gO ?_
  refine tT ?_; refine callW 1000 (play_s b A c cd z1 hby hcd) rfl rfl rfl rfl ?_; rintro u z2 A2 hz2 ⟨cf, evs, B, k, link, m, e0, e1, n0, n1, rfl, rfl, hR, hW, hE, hc, hm, hev, hlen⟩; refine gO ?_
  (first|refine fN ?_|exact fZ)
  exact ⟨cf, evs, B, k, rfl, hE, hc, hm, hev, hlen⟩
set_option maxHeartbeats 1000000

theorem WldH.mk {c : Cfg} {e0 e1 : End} {n0 n1 : List Msg} {m : WM} {link : Int} {z : Zc} (h : WldR z e0 e1 n0 n1 m) : WldH c ⟨c, [e0, e1], [n0, n1], link⟩ (wldV c link m) z (wldA e0 e1 n0 n1 m) := ⟨e0, e1, n0, n1, m, rfl, rfl, rfl, rfl, rfl, h⟩
theorem says_take {w : Wld} {who : Nat} {l : List Frm} {i : Nat} {x : Frm} (h : l[i]? = some x) : says w who (l.take (i + 1)) = say1 (says w who (l.take i)) who x := by
  unfold says
  rw [List.take_add_one, h, List.foldl_append]
  rfl
structure WaysS where
  i : Nat
  e0 : End
  e1 : End
  n0 : List Msg
  n1 : List Msg
  link : Int
  m : WM
  z : Zc



theorem RdS.part {z : Zc} {L : Ents} {A : Option Addr} {o : Nat} {us : List Value} (k : Nat) {e sz n c : Nat} {cs : List Value} (hk : look k L = some (.own (rowA e sz (.slice A n c) n cs))) (h : ∀ i u, us[i]? = some u → cs[o + i]? = some u) : RdS z L A o us := .inr ⟨k, e, sz, n, c, cs, hk, h⟩
theorem FinV.toRow {s : St} {fr : List FR} {R : Value → Zc → Asrt → Prop} (k j : Nat) {e sz m : Nat} {cs : List SC} {vs : List Value} (hk : look j s.L = some (.cells e cs)) (hv : allV cs = some vs) (hl : vs.length = m * sz) (hm : m ≤ 1000000000) (h : ∀ b, FinV fr (rowSt s k j b e sz m vs) R) : FinV fr s R := fun C ρ a w hs => by
  obtain ⟨b, _, hs'⟩ := hs.toRow k j hk hv hl hm
  exact h b C ρ a w hs'
end Go.Proofs.YtpblmlaahapohaaGreat
