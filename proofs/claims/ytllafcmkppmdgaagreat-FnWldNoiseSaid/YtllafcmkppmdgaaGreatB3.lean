/- The engine, eighth part: what calls promise, and how a walk uses it. -/
import Derived.Test.YtllafcmkppmdgaaGreatB2
namespace Go.Proofs.YtllafcmkppmdgaaGreat
open Go.RowKit
set_option linter.unusedVariables false
set_option linter.unusedSimpArgs false
/-! What a call promises. -/
def Spec (P : Program) (f : FuncId) (args : List Value) (z : Zc) (A : Asrt) (R : Value → Zc → Asrt → Prop) : Prop :=
 ∀ w F, WOk ⟨w, F, z⟩ z F w → A.holds w F → Calls P f args.toArray w fun e w' => ∃ v z' A' F', e = .returned v ∧ R v z' A' ∧ A'.holds w' F' ∧ WOk ⟨w, F, z⟩ z' F' w'
def PSpec (P : Program) (f : FuncId) (args : List Value) (z : Zc) (R : Value → Zc → Prop) : Prop := Spec P f args z emp fun v z' A' => A' = emp ∧ R v z'
theorem Spec.mono {P : Program} {f : FuncId} {args : List Value} {z : Zc} {A : Asrt} {R R' : Value → Zc → Asrt → Prop} (h : Spec P f args z A R) (hr : ∀ v z' A', z ≤ z' → R v z' A' → R' v z' A') : Spec P f args z A R' :=
 fun w F hw hA => (h w F hw hA).mono fun e w' ⟨v, z', A', F', h1, h2, h3, h4⟩ => ⟨v, z', A', F', h1, hr v z' A' h4.zle h2, h3, h4⟩
theorem PSpec.mono {P : Program} {f : FuncId} {args : List Value} {z : Zc} {R R' : Value → Zc → Prop} (h : PSpec P f args z R) (hr : ∀ v z', z ≤ z' → R v z' → R' v z') : PSpec P f args z R' :=
 Spec.mono h fun v z' A' hz ⟨h1, h2⟩ => ⟨h1, hr v z' hz h2⟩
/-! Values without names. -/
def SC.toV : SC → Option Value
 | .v x => some x
 | .f (some ⟨b, o', none⟩) o => some (.pointer (some ⟨b, o' + o, none⟩))
 | _ => none
def allV : List SC → Option (List Value)
 | [] => some []
 | x :: xs => match x.toV, allV xs with
  | some v, some vs => some (v :: vs)
  | _, _ => none
def SV.toV : SV → Option Value
 | .c x => x.toV
 | .a xs => match allV xs with
  | some vs => some (.agg vs.toArray)
  | none => none
 | _ => none
def argsV (t : List SV) : List Operand → Option (List Value)
 | [] => some []
 | x :: xs => match (ev t x).toV, argsV t xs with
  | some v, some vs => some (v :: vs)
  | _, _ => none
theorem SC.toV_den {ρ : Nm} {x : SC} {v u : Value} (h : x.toV = some v) (hd : x.den ρ u) : u = v := by
 unfold SC.toV at h
 split at h
 ·injection h with h; subst h; exact hd
 ·injection h with h; subst h
  obtain ⟨b, o', e, rfl⟩ := hd
  injection e with e; injection e with e1 e2 _; subst e1; subst e2; rfl
 ·cases h
theorem allV_den {ρ : Nm} : ∀ {xs : List SC} {vs us : List Value}, allV xs = some vs → DL (SC.den ρ) xs us → us = vs
 | [], vs, [], h, _ => by injection h
 | x :: xs, vs, u :: us, h, hd => by
  unfold allV at h
  split at h
  ·rename_i v vs' h1 h2
   injection h with h
   rw [← h, SC.toV_den h1 hd.1, allV_den h2 hd.2]
  ·cases h
 | [], _, _ :: _, _, h => h.elim
 | _ :: _, _, [], _, h => h.elim
theorem SV.toV_den {ρ : Nm} {x : SV} {v u : Value} (h : x.toV = some v) (hd : x.den ρ u) : u = v := by
 cases x with
 | any => cases h
 | t xs => cases h
 | c x => exact SC.toV_den h hd
 | a xs =>
  obtain ⟨vs, h1, rfl⟩ := hd
  simp only [SV.toV] at h
  split at h
  ·rename_i vs' h2; injection h with h; rw [← h, allV_den h2 h1]
  ·cases h
theorem argsV_den {ρ : Nm} {t : List SV} {a : Act} (hd : DL (SV.den ρ) t a.tmps.toList) : ∀ {xs : List Operand} {vs : List Value}, argsV t xs = some vs → xs.map a.eval = vs
 | [], vs, h => by injection h
 | x :: xs, vs, h => by
  unfold argsV at h
  split at h
  ·rename_i v vs' h1 h2
   injection h with h
   rw [← h, List.map_cons, SV.toV_den h1 (ev_den hd x), argsV_den hd h2]
  ·cases h
/-! A block is given away. -/
def subC (k b : Nat) : SC → SC
 | .p j o => if j = k then .f (some ⟨b, 0, none⟩) o else .p j o
 | .s j o n c => if j = k then .v (.slice (some ⟨b, o, none⟩) n c) else .s j o n c
 | x => x
def subE (k b : Nat) : TE → TE
 | .c x => .c (subC k b x)
 | .a xs => .a (xs.map (subC k b))
def subV (k b : Nat) : SV → SV
 | .any => .any
 | .c x => .c (subC k b x)
 | .a xs => .a (xs.map (subC k b))
 | .t xs => .t (xs.map (subE k b))
def subL (k b : Nat) : Ents → Ents
 | [] => []
 | (j, .cells e cs) :: L => (j, .cells e (cs.map (subC k b))) :: subL k b L
 | (j, .own A) :: L => (j, .own A) :: subL k b L
 | (j, .link i x) :: L => (j, .link i x) :: subL k b L
theorem DL.map_left {α β γ : Type} {R : α → β → Prop} {R' : γ → β → Prop} {f : α → γ} (h : ∀ x y, R x y → R' (f x) y) : ∀ {xs : List α} {ys : List β}, DL R xs ys → DL R' (xs.map f) ys
 | [], [], _ => trivial
 | _ :: _, _ :: _, k => ⟨h _ _ k.1, map_left h k.2⟩
 | [], _ :: _, k => k.elim
 | _ :: _, [], k => k.elim
theorem subC_den {ρ : Nm} {k b : Nat} (hb : ρ[k]? = some b) (x : SC) (u : Value) (h : x.den ρ u) : (subC k b x).den ρ u := by
 cases x with
 | v x => exact h
 | f A o => exact h
 | p j o =>
  show SC.den ρ (if j = k then _ else _) u
  split
  ·rename_i e; subst e
   obtain ⟨b', h1, rfl⟩ := h
   rw [hb] at h1; injection h1 with h1; subst h1
   exact ⟨b, 0, rfl, by simp⟩
  ·exact h
 | s j o n c =>
  show SC.den ρ (if j = k then _ else _) u
  split
  ·rename_i e; subst e
   obtain ⟨b', h1, rfl⟩ := h
   rw [hb] at h1; injection h1 with h1; subst h1
   rfl
  ·exact h
theorem subE_den {ρ : Nm} {k b : Nat} (hb : ρ[k]? = some b) (x : TE) (u : Value) (h : x.den ρ u) : (subE k b x).den ρ u := by
 cases x with
 | c x => exact subC_den hb x u h
 | a xs => obtain ⟨vs, h1, rfl⟩ := h; exact ⟨vs, h1.map_left (subC_den hb), rfl⟩
theorem subV_den {ρ : Nm} {k b : Nat} (hb : ρ[k]? = some b) (x : SV) (u : Value) (h : x.den ρ u) : (subV k b x).den ρ u := by
 cases x with
 | any => trivial
 | c x => exact subC_den hb x u h
 | a xs => obtain ⟨vs, h1, rfl⟩ := h; exact ⟨vs, h1.map_left (subC_den hb), rfl⟩
 | t xs => obtain ⟨vs, h1, rfl⟩ := h; exact ⟨vs, h1.map_left (subE_den hb), rfl⟩
theorem subL_holds {ρ : Nm} {w : World} {k b : Nat} (hb : ρ[k]? = some b) : ∀ {L : Ents} {F : Nat → Prop}, Holds ρ w L F → Holds ρ w (subL k b L) F
 | [], F, h => h
 | (j, .cells e cs) :: L, F, ⟨F1, F2, ⟨b', vs, a1, a2, a3⟩, h2, hd, hF⟩ => ⟨F1, F2, ⟨b', vs, a1, a2.map_left (subC_den hb), a3⟩, subL_holds hb h2, hd, hF⟩
 | (j, .own A) :: L, F, ⟨F1, F2, h1, h2, hd, hF⟩ => ⟨F1, F2, h1, subL_holds hb h2, hd, hF⟩
 | (j, .link _ _) :: L, F, ⟨F1, F2, h1, h2, hd, hF⟩ => ⟨F1, F2, h1, subL_holds hb h2, hd, hF⟩
theorem look_subL (k b j : Nat) : ∀ (L : Ents) {e : TypeId} {cs : List SC}, look j L = some (.cells e cs) → look j (subL k b L) = some (.cells e (cs.map (subC k b)))
 | [], e, cs, h => by simp [look] at h
 | (i, .cells e' cs') :: L, e, cs, h => by
  unfold look at h
  show look j ((i, .cells e' (cs'.map (subC k b))) :: subL k b L) = _
  unfold look
  split at h
  ·rename_i hi; injection h with h; injection h with h1 h2; subst h1; subst h2; rw [if_pos hi]
  ·rename_i hi; rw [if_neg hi]; exact look_subL k b j L h
 | (i, .own A) :: L, e, cs, h => by
  unfold look at h
  show look j ((i, .own A) :: subL k b L) = _
  unfold look
  split at h
  ·injection h with h; cases h
  ·rename_i hi; rw [if_neg hi]; exact look_subL k b j L h
 | (i, .link i' x) :: L, e, cs, h => by
  unfold look at h
  show look j ((i, .link i' x) :: subL k b L) = _
  unfold look
  split at h
  ·injection h with h; cases h
  ·rename_i hi; rw [if_neg hi]; exact look_subL k b j L h
def frz (s : St) (k b : Nat) (z' : Zc) : St := ⟨s.t.map (subV k b), subL k b (del k s.L), z', s.n⟩
theorem Sat.frz {C : Ctx} {ρ : Nm} {s : St} {a : Act} {w : World} {k : Nat} {e : TypeId} {cs : List SC} {vs : List Value} (h : Sat C ρ s a w) (hk : look k s.L = some (.cells e cs)) (hv : allV cs = some vs) :
  ∃ b z', ρ[k]? = some b ∧ s.z ≤ z' ∧ RdAt z' (some ⟨b, 0, none⟩) 0 vs ∧ z'.In b ∧ Sat C ρ (frz s k b z') a w := by
 obtain ⟨b, vs', z', h1, h2, h3, h4, h5, h6, _⟩ := h.mem.freeze hk
 rw [allV_den hv h2] at h4
 obtain ⟨F, f1, f2⟩ := h6
 exact ⟨b, z', h1, h3, h4, h5, h.df, h.fr.map_left (subV_den h1), h.nm, F, subL_holds h1 f1, f2⟩
theorem opM.frz {P : Program} {o : Oper} {s : St} {K : St → Prop} {k : Nat} {e : TypeId} {cs : List SC} {vs : List Value} (hk : look k s.L = some (.cells e cs)) (hv : allV cs = some vs) (h : ∀ b z', s.z ≤ z' → RdAt z' (some ⟨b, 0, none⟩) 0 vs → opM P o (frz s k b z') K) : opM P o s K := fun C ρ a w Q hs => by
 obtain ⟨b, z', h1, h2, h3, h4, h5⟩ := hs.frz hk hv
 refine Oper.wp_mono ?_ (h b z' h2 h3 C ρ a w Q h5)
 rintro a' w' ⟨s', ρ', k1, k2, k3⟩
 refine ⟨s', ρ', k1, k2, k3.pre, Zc.trans' h2 k3.zle, fun X B hB => k3.keep X B fun x hx => ?_⟩
 rcases hB x hx with hx | ⟨j, e', cs', g1, g2, gX⟩
 ·exact .inl (h2.to x hx).1
 ·by_cases hj : j = k
  ·subst hj
   rw [h1] at g2; injection g2 with g2; subst g2
   exact .inl h4
  ·exact .inr ⟨j, e', _, look_subL k b j _ (by rw [look_del hj]; exact g1), g2, gX⟩
theorem opT.frz {P : Program} {o : Oper} {s : St} {K : St → Prop} {k : Nat} {e : TypeId} {cs : List SC} {vs : List Value} (hk : look k s.L = some (.cells e cs)) (hv : allV cs = some vs) (h : ∀ b z', s.z ≤ z' → RdAt z' (some ⟨b, 0, none⟩) 0 vs → opT P o (frz s k b z') K) : opT P o s K := fun C ρ a w Q hs => by
 obtain ⟨b, z', h1, h2, h3, h4, h5⟩ := hs.frz hk hv
 refine Oper.wp_mono ?_ (h b z' h2 h3 C ρ a w Q h5)
 rintro a' w' ⟨s', ρ', k1, k2, k3, k4⟩
 exact ⟨s', ρ', k1, k2, k3, Zc.trans' h2 k4⟩
section
variable {P : Program} {f : FuncId} {args : List Operand} {d : Option Nat} {s : St} {K : St → Prop} {k : Nat} {e : TypeId} {cs : List SC} {vs : List Value}
theorem callM.frz (k : Nat) {e : TypeId} {cs : List SC} {vs : List Value} (hk : look k s.L = some (.cells e cs)) (hv : allV cs = some vs) (h : ∀ b z', s.z ≤ z' → RdAt z' (some ⟨b, 0, none⟩) 0 vs → callM P f args d (frz s k b z') K) : callM P f args d s K :=
 fun o h1 h2 => opM.frz hk hv fun b z' g1 g2 => h b z' g1 g2 o h1 h2
theorem callT.frz (k : Nat) {e : TypeId} {cs : List SC} {vs : List Value} (hk : look k s.L = some (.cells e cs)) (hv : allV cs = some vs) (h : ∀ b z', s.z ≤ z' → RdAt z' (some ⟨b, 0, none⟩) 0 vs → callT P f args d (frz s k b z') K) : callT P f args d s K :=
 fun o h1 h2 => opT.frz hk hv fun b z' g1 g2 => h b z' g1 g2 o h1 h2
theorem VS.id {G : St → Prop} (h : G s) : VS s G := fun C ρ a w hs => ⟨s, ρ, h, hs⟩
theorem VS.frz {G : St → Prop} (k : Nat) {e : TypeId} {cs : List SC} {vs : List Value} (hk : look k s.L = some (.cells e cs)) (hv : allV cs = some vs) (h : ∀ b z', s.z ≤ z' → RdAt z' (some ⟨b, 0, none⟩) 0 vs → VS (frz s k b z') G) : VS s G := fun C ρ a w hs => by
 obtain ⟨b, z', h1, h2, h3, h4, h5⟩ := hs.frz hk hv
 exact h b z' h2 h3 C ρ a w h5
end
/-! Forgetting. -/
def Le (s s' : St) : Prop := ∀ C ρ a w, Sat C ρ s a w → ∃ ρ', Sat C ρ' s' a w
theorem Le.rfl' (s : St) : Le s s := fun C ρ a w h => ⟨ρ, h⟩
theorem VS.le {s s' : St} {G : St → Prop} (hl : Le s s') (h : G s') : VS s G := fun C ρ a w hs => (hl C ρ a w hs).elim fun ρ' h' => ⟨s', ρ', h, h'⟩
def SC.wf (n : Nat) : SC → Bool
 | .p k _ => decide (k < n)
 | .s k _ _ _ => decide (k < n)
 | _ => true
def TE.wf (n : Nat) : TE → Bool
 | .c x => x.wf n
 | .a xs => xs.all (SC.wf n)
def SV.wf (n : Nat) : SV → Bool
 | .any => true
 | .c x => x.wf n
 | .a xs => xs.all (SC.wf n)
 | .t xs => xs.all (TE.wf n)
def wfL (n : Nat) : Ents → Bool
 | [] => true
 | (k, .cells _ cs) :: L => decide (k < n) && cs.all (SC.wf n) && wfL n L
 | (_, .own _) :: L => wfL n L
 | (_, .link j _) :: L => decide (j < n) && wfL n L
def LeT : List SV → List SV → Prop
 | [], [] => True
 | x :: xs, y :: ys => (y = .any ∨ x = y) ∧ LeT xs ys
 | _, _ => False
def LeL : Ents → Ents → Prop
 | [], _ => True
 | (k, e) :: L', L => look k L = some e ∧ LeL L' (del k L)
theorem take_get {ρ : Nm} {n k b : Nat} (h : ρ[k]? = some b) (hk : k < n) : (ρ.take n)[k]? = some b := by rw [List.getElem?_take_of_lt hk]; exact h
theorem SC.den.take {ρ : Nm} {n : Nat} {x : SC} {u : Value} (h : x.den ρ u) (hw : x.wf n = true) : x.den (ρ.take n) u := by
 cases x with
 | v x => exact h
 | f A o => exact h
 | p k o => obtain ⟨b, h1, h2⟩ := h; exact ⟨b, take_get h1 (by simpa [SC.wf] using hw), h2⟩
 | s k o m c => obtain ⟨b, h1, h2⟩ := h; exact ⟨b, take_get h1 (by simpa [SC.wf] using hw), h2⟩
theorem DL.imp_all {α β : Type} {R R' : α → β → Prop} {p : α → Bool} (h : ∀ x y, p x = true → R x y → R' x y) : ∀ {xs : List α} {ys : List β}, xs.all p = true → DL R xs ys → DL R' xs ys
 | [], [], _, _ => trivial
 | x :: xs, y :: ys, hp, k => by
  simp only [List.all_cons, Bool.and_eq_true] at hp
  exact ⟨h _ _ hp.1 k.1, imp_all h hp.2 k.2⟩
 | [], _ :: _, _, k => k.elim
 | _ :: _, [], _, k => k.elim
theorem TE.den.take {ρ : Nm} {n : Nat} {x : TE} {u : Value} (h : x.den ρ u) (hw : x.wf n = true) : x.den (ρ.take n) u := by
 cases x with
 | c x => exact SC.den.take h hw
 | a xs => obtain ⟨vs, h1, h2⟩ := h; exact ⟨vs, h1.imp_all (p := SC.wf n) (R' := SC.den (ρ.take n)) (fun _ _ hp h => SC.den.take h hp) hw, h2⟩
theorem SV.den.take {ρ : Nm} {n : Nat} {x : SV} {u : Value} (h : x.den ρ u) (hw : x.wf n = true) : x.den (ρ.take n) u := by
 cases x with
 | any => trivial
 | c x => exact SC.den.take h hw
 | a xs => obtain ⟨vs, h1, h2⟩ := h; exact ⟨vs, h1.imp_all (p := SC.wf n) (R' := SC.den (ρ.take n)) (fun _ _ hp h => SC.den.take h hp) hw, h2⟩
 | t xs => obtain ⟨vs, h1, h2⟩ := h; exact ⟨vs, h1.imp_all (p := TE.wf n) (R' := TE.den (ρ.take n)) (fun _ _ hp h => TE.den.take h hp) hw, h2⟩
theorem Holds.take {ρ : Nm} {n : Nat} {w : World} : ∀ {L : Ents} {F : Nat → Prop}, Holds ρ w L F → wfL n L = true → Holds (ρ.take n) w L F
 | [], F, h, _ => h
 | (k, .cells e cs) :: L, F, ⟨F1, F2, ⟨b, vs, a1, a2, a3⟩, h2, hd, hF⟩, hw => by
  simp only [wfL, Bool.and_eq_true, decide_eq_true_eq] at hw
  exact ⟨F1, F2, ⟨b, vs, take_get a1 hw.1.1, a2.imp_all (p := SC.wf n) (R' := SC.den (ρ.take n)) (fun _ _ hp h => SC.den.take h hp) hw.1.2, a3⟩, Holds.take h2 hw.2, hd, hF⟩
 | (k, .own A) :: L, F, ⟨F1, F2, h1, h2, hd, hF⟩, hw => ⟨F1, F2, h1, Holds.take h2 hw, hd, hF⟩
 | (k, .link j b) :: L, F, ⟨F1, F2, h1, h2, hd, hF⟩, hw => by
  simp only [wfL, Bool.and_eq_true, decide_eq_true_eq] at hw
  exact ⟨F1, F2, ⟨take_get h1.1 hw.1, h1.2⟩, Holds.take h2 hw.2, hd, hF⟩
theorem LeL.holds {ρ : Nm} {w : World} : ∀ {L' L : Ents} {F : Nat → Prop}, LeL L' L → Holds ρ w L F → ∃ F', Holds ρ w L' F' ∧ ∀ b, F' b → F b
 | [], L, F, _, h => ⟨fun _ => False, fun _ h => h, fun _ h => h.elim⟩
 | (k, e) :: L', L, F, ⟨hk, hl⟩, h => by
  obtain ⟨F1, F2, h1, h2, hd, hF⟩ := h.pick hk
  obtain ⟨F', h3, h4⟩ := LeL.holds hl h2
  exact ⟨fun b => F1 b ∨ F' b, ⟨F1, F', h1, h3, fun b hb hf => hd b hb (h4 b hf), fun b => Iff.rfl⟩, fun b hb => (hF b).2 (hb.imp (fun x => x) (h4 b))⟩
theorem WOk.less {C : Ctx} {z : Zc} {F F' : Nat → Prop} {w : World} (h : WOk C z F w) (hF : ∀ b, F' b → F b) : WOk C z F' w :=
 ⟨h.os, h.tape, h.output, h.size, h.zsize, h.frz, fun b hb => h.dis b (hF b hb), h.unt, fun b hb => h.own b (hF b hb), h.zin, h.zle⟩
theorem LeT.den {ρ : Nm} : ∀ {xs ys : List SV} {vs : List Value}, LeT xs ys → DL (SV.den ρ) xs vs → DL (SV.den ρ) ys vs
 | [], [], [], _, _ => trivial
 | x :: xs, y :: ys, v :: vs, h, k => ⟨by rcases h.1 with e | e <;> subst e; exact trivial; exact k.1, LeT.den h.2 k.2⟩
 | [], [], _ :: _, _, k => k.elim
 | _ :: _, _ :: _, [], _, k => k.elim
 | [], _ :: _, _, h, _ => h.elim
 | _ :: _, [], _, h, _ => h.elim
theorem Le.of {s s' : St} (ht : LeT s.t s'.t) (hL : LeL s'.L s.L) (hz : s'.z = s.z) (hn : s'.n ≤ s.n) (hw : s'.t.all (SV.wf s'.n) = true ∧ wfL s'.n s'.L = true) : Le s s' := fun C ρ a w hs => by
 obtain ⟨F, h1, h2⟩ := hs.mem
 obtain ⟨F', h3, h4⟩ := LeL.holds hL h1
 exact ⟨ρ.take s'.n, hs.df, (LeT.den ht hs.fr).imp_all (p := SV.wf s'.n) (R' := SV.den (ρ.take s'.n)) (fun _ _ hp h => SV.den.take h hp) hw.1, by rw [List.length_take, hs.nm]; omega, F', h3.take hw.2, by rw [hz]; exact h2.less h4⟩
/-! Loops. -/
theorem loop_rule {P : Program} {ic : IC} {s : St} {K : Exit → St → Prop} {ι : Type} (Inv : ι → St) (μ : ι → Nat) (i0 : ι) (h0 : Le s (Inv i0))
  (hb : ∀ i, vcI P ic (Inv i) fun e s' => match e with | .normal => ∃ j, μ j < μ i ∧ Le s' (Inv j) | e => K e s') : loopV P ic s K := fun pl c hc C ρ a w hs => by
 obtain ⟨ρ0, hs0⟩ := h0 C ρ a w hs
 refine wp_loop_ghost (fun n a w => ∃ i ρ, μ i = n ∧ Sat C ρ (Inv i) a w) (μ i0) ⟨i0, ρ0, rfl, hs0⟩ ?_
 rintro n a w ⟨i, ρ, rfl, hs⟩
 refine wp_mono (vcI_sound c ic hc (Inv i) _ C ρ a w (hb i) hs) ?_
 rintro e a' w' ⟨hp, s', ρ', hk, hs'⟩
 cases e with
 | normal =>
  obtain ⟨j, hj, hl⟩ := hk
  obtain ⟨ρ'', h''⟩ := hl C ρ' a' w' hs'
  exact ⟨μ j, hj, j, ρ'', rfl, h''⟩
 | exit id => exact ⟨hp, s', ρ', hk, hs'⟩
 | goto l => exact ⟨hp, s', ρ', hk, hs'⟩
 | ret => exact ⟨hp, s', ρ', hk, hs'⟩
 | panic c => exact hp.elim
 | outgrown => exact hp.elim
/-! The end. -/
inductive FR where
 | t (n : Nat)
 | c (p sz : Nat) (agg : Bool)
def fres (P : Program) : List ResultVar → Option (List FR)
 | [] => some []
 | .tmp n :: r => match fres P r with
  | some l => some (.t n :: l)
  | none => none
 | .cell p ty :: r => match szOf P ty, fres P r with
  | some (sz + 1, agg), some l => some (.c p (sz + 1) agg :: l)
  | _, _ => none
def resV (a : Act) (w : World) : List FR → List Value → Prop
 | [], [] => True
 | .t n :: r, v :: vs => v = a.tmps.getD n undef ∧ resV a w r vs
 | .c p sz agg :: r, v :: vs => (∃ b us, a.tmps.getD p undef = .pointer (some ⟨b, 0, none⟩) ∧ w.rangeAt b 0 us ∧ us.length = sz ∧ if agg then v = .agg us.toArray else us[0]? = some v) ∧ resV a w r vs
 | _, _ => False
def tupV : List Value → Value
 | [v] => v
 | vs => .tuple vs.toArray
def FinV (fr : List FR) (s : St) (R : Value → Zc → Asrt → Prop) : Prop := ∀ C ρ a w, Sat C ρ s a w → ∃ vs z' A' F', resV a w fr vs ∧ R (tupV vs) z' A' ∧ A'.holds w F' ∧ WOk C z' F' w
def postK (fr : List FR) (R : Value → Zc → Asrt → Prop) : Exit → St → Prop
 | .normal, s => FinV fr s R
 | .ret, s => FinV fr s R
 | _, _ => False
theorem run_res {P : Program} {a : Act} {w : World} : ∀ (rs : List ResultVar) (fr : List FR) (vs : List Value), fres P rs = some fr → resV a w fr vs →
  (rs.mapM fun x => match x with | .tmp t => pure (a.tmps.getD t undef) | .cell p t => do loadVar t (← asAddr (a.tmps.getD p undef)) : Sem (List Value)).run P w = .ok vs w
 | [], fr, vs, h, hv => by
  injection h with h; subst h
  cases vs with
  | nil => simp
  | cons v vs => exact hv.elim
 | .tmp n :: r, fr, vs, h, hv => by
  unfold fres at h
  split at h
  ·rename_i l hl
   injection h with h; subst h
   cases vs with
   | nil => exact hv.elim
   | cons v vs =>
    obtain ⟨rfl, hv⟩ := hv
    rw [List.mapM_cons, Sem.run_bind, Sem.run_pure, Result.andThen_ok, Sem.run_bind, run_res r l vs hl hv]
    rfl
  ·cases h
 | .cell p ty :: r, fr, vs, h, hv => by
  unfold fres at h
  split at h
  ·rename_i sz agg l hsz hl
   injection h with h; subst h
   cases vs with
   | nil => exact hv.elim
   | cons v vs =>
    obtain ⟨⟨b, us, h1, h2, h3, h4⟩, hv⟩ := hv
    have hload : (do loadVar ty (← asAddr (a.tmps.getD p undef)) : Sem Value).run P w = .ok v w := by
     rw [h1, Sem.run_bind]
     have := run_loadAt hsz h2 h3 v h4
     unfold Instr.loadAt at this
     rw [Sem.run_bind] at this
     exact this
    rw [List.mapM_cons, Sem.run_bind, hload, Result.andThen_ok, Sem.run_bind, run_res r l vs hl hv]
    rfl
  ·cases h
theorem results_run {P : Program} {fn : Func} {fr : List FR} {a : Act} {w : World} {vs : List Value} (h : fres P fn.results.toList = some fr) (hv : resV a w fr vs) : (results fn a.tmps).run P w = .ok (tupV vs) w := by
 unfold results
 rw [Sem.run_bind, Array.mapM_eq_mapM_toList, Sem.run_map]
 have := run_res (P := P) (a := a) (w := w) fn.results.toList fr vs h hv
 refine (congrArg (fun r : Result (List Value) => (r.andThen fun a w' => Result.ok a.toArray w').andThen fun a w' => (pure (if h : a.size = 1 then a[0] else Value.tuple a) : Sem Value).run P w') this).trans ?_
 simp only [Result.andThen_ok]
 cases vs with
 | nil => rfl
 | cons v r => cases r with
  | nil => rfl
  | cons u r => rfl
def FK (P : Program) (n : FuncId) (ic : IC) (fr : List FR) (m : Nat) : Prop := ∃ fn pl, P.funcs[n]? = some fn ∧ fn.body.bind (trC P pl) = some ic ∧ fres P fn.results.toList = some fr ∧ fn.ntmps = m
theorem spec_enter {P : Program} {f : FuncId} {ic : IC} {fr : List FR} {args : List Value} {m : Nat} {z : Zc} {A : Asrt} {R : Value → Zc → Asrt → Prop} (hk : FK P f ic fr m)
  (hv : VS ⟨args.map ofV ++ List.replicate (m - args.length) unS, [(1000, .own A)], z, 0⟩ fun s => vcI P ic s (postK fr R)) : Spec P f args z A R := fun w F hw hA => by
 obtain ⟨fn, pl, hf, hc, hr, hn⟩ := hk
 obtain ⟨c, hb, hc⟩ : ∃ c, fn.body = some c ∧ trC P pl c = some ic := by
  cases hx : fn.body with
  | none => rw [hx] at hc; cases hc
  | some c => rw [hx] at hc; exact ⟨c, rfl, hc⟩
 refine calls_of_wp hf hb ?_
 have hs : Sat ⟨w, F, z⟩ [] ⟨args.map ofV ++ List.replicate (m - args.length) unS, [(1000, .own A)], z, 0⟩ { tmps := args.toArray ++ Array.replicate (fn.ntmps - args.toArray.size) undef, defers := [] } w := by
  refine ⟨rfl, ?_, rfl, F, ⟨F, fun _ => False, hA, fun _ h => h, fun _ _ h => h, fun b => by simp⟩, hw⟩
  simp only [Array.toList_append, Array.toList_replicate, hn, List.size_toArray]
  exact (DL.map_id (ofV_den []) args).append (DL.replicate (R := SV.den []) (x := unS) (y := undef) rfl _)
 obtain ⟨s', ρ', h1, h2⟩ := hv _ _ _ _ hs
 refine wp_mono (vcI_sound c ic hc s' _ ⟨w, F, z⟩ ρ' _ w h1 h2) ?_
 rintro e a' w' ⟨hp, s', ρ', hk, hs'⟩
 have fin : FinV fr s' R → a'.defers = [] ∧ ∃ v, (results fn a'.tmps).run P w' = .ok v w' ∧ ∃ v_1 z' A' F', Ending.returned v = .returned v_1 ∧ R v_1 z' A' ∧ A'.holds w' F' ∧ WOk ⟨w, F, z⟩ z' F' w' := fun hk => by
  obtain ⟨vs, z', A', F', g1, g2, g3, g4⟩ := hk _ _ _ _ hs'
  exact ⟨hs'.df, _, results_run hr g1, _, z', A', F', rfl, g2, g3, g4⟩
 cases e with
 | normal => exact fin hk
 | ret => exact fin hk
 | exit id => exact hk.elim
 | goto l => exact hk.elim
 | panic c => exact hp.elim
 | outgrown => exact hp.elim
theorem pspec_enter {P : Program} {f : FuncId} {ic : IC} {fr : List FR} {args : List Value} {m : Nat} {z : Zc} {R : Value → Zc → Prop} (hk : FK P f ic fr m)
  (hv : vcI P ic ⟨args.map ofV ++ List.replicate (m - args.length) unS, [], z, 0⟩ (postK fr fun v z' A' => A' = emp ∧ R v z')) : PSpec P f args z R :=
 spec_enter hk fun C ρ a w hs => ⟨_, ρ, hv, hs.df, hs.fr, hs.nm, hs.mem.drop⟩
theorem FinV.frz {fr : List FR} {s : St} {R : Value → Zc → Asrt → Prop} (k : Nat) {e : TypeId} {cs : List SC} {vs : List Value} (hk : look k s.L = some (.cells e cs)) (hv : allV cs = some vs) (h : ∀ b z', s.z ≤ z' → RdAt z' (some ⟨b, 0, none⟩) 0 vs → FinV fr (frz s k b z') R) : FinV fr s R := fun C ρ a w hs => by
 obtain ⟨b, z', h1, h2, h3, h4, h5⟩ := hs.frz hk hv
 exact h b z' h2 h3 C ρ a w h5
def finS (s : St) : FR → Option SV
 | .t n => some (gt s.t n)
 | .c p sz agg => match gt s.t p with
  | .c (.p k 0) => match look k s.L with
   | some (.cells _ cs) => if cs.length = sz then (if agg then some (.a cs) else match cs[0]? with
    | some x => some (.c x)
    | none => none) else none
   | _ => none
  | _ => none
def finE (s : St) : List FR → (List Value → Prop) → Prop
 | [], K => K []
 | f :: r, K => match finS s f with
  | some sv => match sv.toV with
   | some v => finE s r fun vs => K (v :: vs)
   | none => False
  | none => False
theorem finE_spec {C : Ctx} {ρ : Nm} {s : St} {a : Act} {w : World} (hs : Sat C ρ s a w) : ∀ (fr : List FR) (K : List Value → Prop), finE s fr K → ∃ vs, K vs ∧ resV a w fr vs
 | [], K, h => ⟨[], h, trivial⟩
 | f :: r, K, h => by
  unfold finE at h
  split at h
  ·rename_i sv hsv
   split at h
   ·rename_i v hv
    obtain ⟨vs, h1, h2⟩ := finE_spec hs r _ h
    refine ⟨v :: vs, h1, ?_⟩
    cases f with
    | t n =>
     simp only [finS, Option.some.injEq] at hsv
     subst hsv
     have := SV.toV_den hv (gt_den n hs.fr)
     exact ⟨by rw [← this]; simp, h2⟩
    | c p sz agg =>
     simp only [finS] at hsv
     split at hsv
     ·rename_i k he
      split at hsv
      ·rename_i e cs hk
       split at hsv
       ·rename_i hl
        obtain ⟨b, us, g1, g2, g3⟩ := hs.mem.cells hk
        have hp := gt_den p hs.fr
        rw [he] at hp
        obtain ⟨b', k1, k2⟩ := hp
        rw [g1] at k1; injection k1 with k1; subst k1
        have hr : w.rangeAt b 0 us := fun j x hx => by rw [cell_of_row _ _ _ _ _ _ g3]; simpa using hx
        refine ⟨⟨b, us, by rw [← k2]; simp, hr, by rw [← g2.length, hl], ?_⟩, h2⟩
        cases agg with
        | true =>
         simp only [if_true, Option.some.injEq] at hsv ⊢
         subst hsv
         exact (SV.toV_den hv (show (SV.a cs).den ρ (.agg us.toArray) from ⟨us, g2, rfl⟩)).symm
        | false =>
         simp only [Bool.false_eq_true, if_false] at hsv ⊢
         split at hsv
         ·rename_i x hx
          injection hsv with hsv
          subst hsv
          obtain ⟨u, hu, hd⟩ := g2.get hx
          rw [hu, SC.toV_den hv hd]
         ·cases hsv
       ·cases hsv
      ·cases hsv
     ·cases hsv
   ·exact h.elim
  ·exact h.elim
theorem holds_emp (w : World) : emp.holds w (fun _ => False) := fun _ h => h
theorem FinV.of {fr : List FR} {s : St} {R : Value → Zc → Asrt → Prop} (h : finE s fr fun vs => R (tupV vs) s.z emp) : FinV fr s R := fun C ρ a w hs => by
 obtain ⟨vs, h1, h2⟩ := finE_spec hs fr _ h
 obtain ⟨F, h3, h4⟩ := hs.mem
 exact ⟨vs, s.z, emp, fun _ => False, h2, h1, holds_emp w, h4.less fun _ h => h.elim⟩
theorem FinV.own {fr : List FR} {s : St} {R : Value → Zc → Asrt → Prop} (k : Nat) {A : Asrt} (hk : look k s.L = some (.own A)) (h : finE s fr fun vs => R (tupV vs) s.z A) : FinV fr s R := fun C ρ a w hs => by
 obtain ⟨vs, h1, h2⟩ := finE_spec hs fr _ h
 obtain ⟨F, h3, h4⟩ := hs.mem
 obtain ⟨F1, F2, g1, g2, gd, gF⟩ := h3.pick hk
 exact ⟨vs, s.z, A, F1, h2, h1, g1, h4.less fun b hb => (gF b).2 (.inl hb)⟩
/-! Calls. -/
section
variable {P : Program} {f : FuncId} {args : List Operand} {d : Option Nat} {s : St} {K : St → Prop}
theorem tr_call {op : Op} (h : tr P op = .call f args) : ∃ c fn, op = .call c ∧ c.callee = .value (.func f) ∧ c.args.toList = args ∧ P.funcs[f]? = some fn ∧ fn.body.isSome = true ∧ (fn.name == "runtime.NumGoroutine") = false := by
 cases op with
 | call c =>
  rcases trCall_cases (show trCall P c = _ from h) with ⟨_, _, e, _⟩ | ⟨_, _, e, _⟩ | ⟨_, _, e, _⟩ | ⟨_, _, _, e, _⟩ | ⟨f', fn, e, h1, h2, h3, h4⟩ | e
  ·cases e
  ·cases e
  ·cases e
  ·cases e
  ·injection e with e1 e2; subst e1; exact ⟨c, fn, rfl, h1, e2.symm, h2, h3, h4⟩
  ·cases e
 | _ => simp only [tr] at h; (repeat' split at h) <;> first | contradiction | cases h
theorem run_call {o : Oper} {a : Act} (ho : tr P o.op = .call f args) (w : World) : (execOp a.eval o).run P w = .ok (.enter f (args.map a.eval).toArray) w := by
 obtain ⟨c, fn, h1, h2, h3, h4, h5, h6⟩ := tr_call ho
 have ha : c.args.map a.eval = (args.map a.eval).toArray := by rw [← h3]; apply Array.toList_inj.1; simp
 have hfn : fn.name ≠ "runtime.NumGoroutine" := by simpa using h6
 obtain ⟨body, hb⟩ := Option.isSome_iff_exists.1 h5
 unfold execOp
 simp [h1, resolve, h2, ha, Act.eval, Deferred.ofValue, invoke, callFunc, h4, hfn, hb]
theorem call_core {o : Oper} {vs : List Value} (ho : tr P o.op = .call f args) (ha : argsV s.t args = some vs) {k : Nat} {A : Asrt} {L : Ents} {R : Value → Zc → Asrt → Prop} (hs : Spec P f vs s.z A R)
  (hL : ∀ (ρ : Nm) (w : World) (F : Nat → Prop), Holds ρ w s.L F → Holds ρ w ((k, .own A) :: L) F) (hcells : ∀ j e cs, look j s.L = some (.cells e cs) → look j L = some (.cells e cs)) (hk : ∀ e cs, look k L ≠ some (.cells e cs)) {K' : Value → Zc → Asrt → Prop} (hK : ∀ v z' A', s.z ≤ z' → R v z' A' → K ⟨stO s.t o.dst (ofV v), (k, .own A') :: L, z', s.n⟩) : opM P o s K := fun C ρ a w Q h => by
 unfold Oper.wp
 rw [run_call ho, argsV_den h.fr ha]
 show Calls P f vs.toArray w _
 obtain ⟨F, h1, h2⟩ := h.mem
 obtain ⟨F1, F2, g1, g2, gd, gF⟩ := hL ρ w F h1
 have hw : WOk ⟨w, F1, s.z⟩ s.z F1 w := WOk.start h2.zsize h2.frz (fun b hb => h2.dis b ((gF b).2 (.inl hb)))
 have hFe : F = fun b => F1 b ∨ F2 b := funext fun b => propext (gF b)
 refine Calls.mono (hs w F1 hw g1) ?_
 rintro e w' ⟨v, z', A', F', rfl, k1, k2, k3⟩
 have hm := Mem.call (C := C) (k := k) g1 g2 gd (by rw [← hFe]; exact h2) k2 k3
 refine ⟨_, ρ, hK v z' A' k3.zle k1, ⟨by cases o.dst <;> exact h.df, stO_den h.fr o.dst (ofV_den ρ v), h.nm, hm⟩, List.prefix_rfl, k3.zle, fun X B hB => ⟨fun b hb => ?_, fun b hb => ?_⟩⟩
 ·have hlt : b < w.heap.size := hB.old h.mem hb
  refine k3.unt b hlt fun hf => ?_
  rcases hB b hb with hz | ⟨j, e, cs, q1, q2, qX⟩
  ·exact h2.dis b ((gF b).2 (.inl hf)) hz
  ·have hj := hcells j e cs q1
   obtain ⟨G1, G2, ⟨b', vs', r1, r2, r3, r4⟩, _, _, rF⟩ := Holds.pick g2 hj
   rw [q2] at r1; injection r1 with r1; subst r1
   exact gd b hf ((rF b).2 (.inl ((r4 b).2 rfl)))
 ·rcases hB b hb with hz | ⟨j, e, cs, q1, q2, qX⟩
  ·exact .inl (k3.zle.to b hz).1
  ·have hj := hcells j e cs q1
   refine .inr ⟨j, e, cs, ?_, q2, qX⟩
   show (if k = j then _ else look j L) = _
   by_cases hkj : k = j
   ·subst hkj; exact absurd hj (hk e cs)
   ·rw [if_neg hkj]; exact hj
theorem callM_p {vs : List Value} {R : Value → Zc → Prop} (ha : argsV s.t args = some vs) (hs : PSpec P f vs s.z R) (hK : ∀ v z', s.z ≤ z' → R v z' → K ⟨stO s.t d (ofV v), s.L, z', s.n⟩) : callM P f args d s K := fun o ho hd C ρ a w Q h => by
 subst hd
 by_cases h9 : ∃ j, look j s.L = none
 ·obtain ⟨j9, h9⟩ := h9
  refine Oper.wp_mono ?_ (call_core (K := fun s' => ∃ v z', s' = ⟨stO s.t o.dst (ofV v), (j9, .own emp) :: s.L, z', s.n⟩ ∧ s.z ≤ z' ∧ R v z') (k := j9) (L := s.L) (K' := fun _ _ _ => True) ho ha hs (fun ρ w F hF => hF.emp j9) (fun _ _ _ h => h) (fun e cs => by rw [h9]; simp) (fun v z' A' hz ⟨hA, hR⟩ => by subst hA; exact ⟨v, z', rfl, hz, hR⟩) C ρ a w Q h)
  rintro a' w' ⟨s', ρ', ⟨v, z', rfl, hz, hR⟩, h1, h2⟩
  refine ⟨_, ρ', hK v z' hz hR, ⟨h1.df, h1.fr, h1.nm, h1.mem.drop⟩, h2.pre, hz, fun X B hB => ⟨(h2.keep X B hB).1, fun b hb => ?_⟩⟩
  rcases (h2.keep X B hB).2 b hb with g | ⟨j, e, cs, g1, g2, gX⟩
  ·exact .inl g
  ·refine .inr ⟨j, e, cs, ?_, g2, gX⟩
   have g1 : (if j9 = j then some (.own emp) else look j s.L) = some (.cells e cs) := g1
   split at g1
   ·injection g1 with g1; cases g1
   ·exact g1
 ·exfalso
  have hall : ∀ L : Ents, ∃ j, look j L = none := fun L => by
   have : ∀ L : Ents, ∃ m, ∀ j, m ≤ j → look j L = none := fun L => by
    induction L with
    | nil => exact ⟨0, fun _ _ => rfl⟩
    | cons x L ih =>
     obtain ⟨m, hm⟩ := ih
     refine ⟨m + x.1 + 1, fun j hj => ?_⟩
     show (if x.1 = j then some x.2 else look j L) = none
     rw [if_neg (by omega)]
     exact hm j (by omega)
   obtain ⟨m, hm⟩ := this L
   exact ⟨m, hm m (Nat.le_refl m)⟩
  exact h9 (hall s.L)
theorem callM_o (k : Nat) {vs : List Value} {R : Value → Zc → Asrt → Prop} (ha : argsV s.t args = some vs) (hk : look k s.L = none) (hs : Spec P f vs s.z emp R) (hK : ∀ v z' A', s.z ≤ z' → R v z' A' → K ⟨stO s.t d (ofV v), (k, .own A') :: s.L, z', s.n⟩) : callM P f args d s K := fun o ho hd => by
 subst hd
 exact call_core (K' := fun _ _ _ => True) ho ha hs (fun ρ w F hF => hF.emp k) (fun _ _ _ h => h) (fun e cs => by rw [hk]; simp) hK
theorem callM_w (k : Nat) {A : Asrt} {vs : List Value} {R : Value → Zc → Asrt → Prop} (ha : argsV s.t args = some vs) (hk : look k s.L = some (.own A)) (hk' : look k (del k s.L) = none) (hs : Spec P f vs s.z A R) (hK : ∀ v z' A', s.z ≤ z' → R v z' A' → K ⟨stO s.t d (ofV v), (k, .own A') :: del k s.L, z', s.n⟩) : callM P f args d s K := fun o ho hd => by
 subst hd
 refine call_core (K' := fun _ _ _ => True) ho ha hs (fun ρ w F hF => hF.pick hk) (fun j e cs h => ?_) (fun e cs => by rw [hk']; simp) hK
 by_cases hj : j = k
 ·subst hj; rw [hk] at h; injection h with h; cases h
 ·rw [look_del hj]; exact h
theorem callM.toT (h : callM P f args d s K) : callT P f args d s K := fun o h1 h2 => (h o h1 h2).toT
end
section
variable {P : Program} {f : FuncId} {args : List Operand} {d : Option Nat} {s : St} {K : St → Prop} {z0 : Zc} {vs : List Value}
theorem callP {R : Value → Zc → Prop} (hs : PSpec P f vs z0 R) (ha : argsV s.t args = some vs) (hz : s.z = z0) (hK : ∀ v z', z0 ≤ z' → R v z' → K ⟨stO s.t d (ofV v), s.L, z', s.n⟩) : callM P f args d s K := by
 subst hz; exact callM_p ha hs hK
theorem callO (k : Nat) {R : Value → Zc → Asrt → Prop} (hs : Spec P f vs z0 emp R) (ha : argsV s.t args = some vs) (hk : look k s.L = none) (hz : s.z = z0) (hK : ∀ v z' A', z0 ≤ z' → R v z' A' → K ⟨stO s.t d (ofV v), (k, .own A') :: s.L, z', s.n⟩) : callM P f args d s K := by
 subst hz; exact callM_o k ha hk hs hK
theorem callW (k : Nat) {A : Asrt} {R : Value → Zc → Asrt → Prop} (hs : Spec P f vs z0 A R) (ha : argsV s.t args = some vs) (hk : look k s.L = some (.own A)) (hk' : look k (del k s.L) = none) (hz : s.z = z0) (hK : ∀ v z' A', z0 ≤ z' → R v z' A' → K ⟨stO s.t d (ofV v), (k, .own A') :: del k s.L, z', s.n⟩) : callM P f args d s K := by
 subst hz; exact callM_w k ha hk hk' hs hK
end
/-! A struct behind a pointer. -/
/-! How a walk goes on: where it stops. -/
def vsI (P : Program) (b : IC) (K : Exit → St → Prop) (s : St) : Prop := VS s fun s'' => vcI P b s'' K
def seqK (P : Program) (b : IC) (K : Exit → St → Prop) : Exit → St → Prop
 | .normal, s => vsI P b K s
 | .exit i, s => K (.exit i) s
 | .ret, s => K .ret s
 | .goto l, s => K (.goto l) s
 | .panic c, s => K (.panic c) s
 | .outgrown, s => K .outgrown s
def blockK (id : Nat) (K : Exit → St → Prop) : Exit → St → Prop
 | .normal, s => K .normal s
 | .exit i, s => if i = id then K .normal s else K (.exit i) s
 | .ret, s => K .ret s
 | .goto l, s => K (.goto l) s
 | .panic c, s => K (.panic c) s
 | .outgrown, s => K .outgrown s
def condI (P : Program) (a b : IC) (K : Exit → St → Prop) (s : St) : Bool → Prop
 | true => vcI P a s K
 | false => vcI P b s K
section
variable {P : Program} {K : Exit → St → Prop} {s : St}
theorem vcI_skip : vcI P .skip s K = K .normal s := (rfl)
theorem vcI_reg {xs : List Tmp} {r : IReg} : vcI P (.reg xs r) s K = vcR (xnm s.t xs) P r s s (K .normal) := (rfl)
theorem vcI_join {xs : List Tmp} {r : IReg} : vcI P (.join xs r) s K = joinV r s (vcR (xnm s.t xs) P r s s) (K .normal) := (rfl)
theorem vcI_seq {a b : IC} : vcI P (.seq a b) s K = vcI P a s (seqK P b K) := by
 show vcI P a s _ = _
 congr 1
 funext e s'
 cases e <;> rfl
theorem seqK_normal {b : IC} : seqK P b K .normal s = vsI P b K s := (rfl)
theorem seqK_exit {b : IC} {i : Nat} : seqK P b K (.exit i) s = K (.exit i) s := (rfl)
theorem seqK_ret {b : IC} : seqK P b K .ret s = K .ret s := (rfl)
def condS (P : Program) (a b : IC) (K : Exit → St → Prop) (s : St) : SV → Prop
 | .c (.v (.bool q)) => condI P a b K s q
 | _ => False
theorem condS_b {a b : IC} {q : Bool} : condS P a b K s (.c (.v (.bool q))) = condI P a b K s q := (rfl)
theorem condI_t {a b : IC} : condI P a b K s true = vcI P a s K := (rfl)
theorem condI_f {a b : IC} : condI P a b K s false = vcI P b s K := (rfl)
theorem vcI_cond {c : Operand} {a b : IC} (h : condS P a b K s (ev s.t c)) : vcI P (.cond c a b) s K := by
 show (match ev s.t c with | .c (.v (.bool q)) => (q = true → vcI P a s K) ∧ (q = false → vcI P b s K) | _ => False)
 unfold condS at h
 split at h
 ·rename_i q he
  cases q with
  | true => exact ⟨fun _ => h, fun e => by cases e⟩
  | false => exact ⟨(fun e => by cases e), fun _ => h⟩
 ·exact h.elim
theorem condI.split {a b : IC} {q : Bool} (h1 : q = true → vcI P a s K) (h2 : q = false → vcI P b s K) : condI P a b K s q := by
 cases q with
 | true => exact h1 rfl
 | false => exact h2 rfl
theorem vcI_block {id : Nat} {b : IC} : vcI P (.block id b) s K = vcI P b s (blockK id K) := by
 show vcI P b s _ = _
 congr 1
 funext e s'
 cases e <;> rfl
theorem blockK_normal {id : Nat} : blockK id K .normal s = K .normal s := (rfl)
theorem blockK_exit {id i : Nat} : blockK id K (.exit i) s = if i = id then K .normal s else K (.exit i) s := (rfl)
theorem blockK_ret {id : Nat} : blockK id K .ret s = K .ret s := (rfl)
theorem vcI_loop {b : IC} : vcI P (.loop b) s K = loopV P b s K := (rfl)
theorem vcI_exit {id : Nat} : vcI P (.exit id) s K = K (.exit id) s := (rfl)
theorem vcI_ret : vcI P .ret s K = K .ret s := (rfl)
theorem vsI.id {b : IC} (h : vcI P b s K) : vsI P b K s := VS.id h
theorem postK_normal {fr : List FR} {R : Value → Zc → Asrt → Prop} : postK fr R .normal s = FinV fr s R := (rfl)
theorem postK_ret {fr : List FR} {R : Value → Zc → Asrt → Prop} : postK fr R .ret s = FinV fr s R := (rfl)
end
theorem add_zero' (a : Addr) : a.add 0 = a := by unfold Addr.add; rw [if_pos rfl]
theorem cutA_zero (A : Option Addr) (c sz : Nat) : cutA A c 0 sz = A := by
 unfold cutA
 split
 ·rfl
 ·rw [Nat.zero_mul]
  cases A with
  | none => rfl
  | some a => simp [add_zero']
/-! The same, in steps that stop where a choice is to be made. -/
def kR (X : List Nat) (P : Program) (r : IReg) (s0 : St) (K : St → Prop) (s : St) : Prop := vcR X P r s0 s K
def putK (d : Option Nat) (s : St) (K : St → Prop) (v : SV) : Prop := K ⟨stO s.t d v, s.L, s.z, s.n⟩
def guardR (X : List Nat) (P : Program) (kd : Kd) (i : IOp) (d : Option Nat) (r : IReg) (s0 s : St) (K : St → Prop) : Bool → Bool → Prop
 | true, true => vcO X P kd i d s0 s (kR X P r s0 K)
 | false, false => vcO X P kd i d s0 s (kR X P r s0 K)
 | _, _ => vcR X P r s0 ⟨stO s.t d unS, s.L, s.z, s.n⟩ K
def guardS (X : List Nat) (P : Program) (kd : Kd) (i : IOp) (d : Option Nat) (r : IReg) (s0 s : St) (K : St → Prop) (b : Bool) : SV → Prop
 | .c (.v (.bool q)) => guardR X P kd i d r s0 s K b q
 | .c (.v (.tuple _)) => vcR X P r s0 ⟨stO s.t d unS, s.L, s.z, s.n⟩ K
 | _ => False
def pickB (x y : SV) (K : SV → Prop) : Bool → Prop
 | true => K x
 | false => K y
def pickS (x y : SV) (K : SV → Prop) : SV → Prop
 | .c (.v (.bool q)) => pickB x y K q
 | _ => False
def ldF (sz : Nat) (agg : Bool) (R : Option Addr → Nat → List Value → Prop) (A : Option Addr) (o : Nat) (K : SV → Prop) : Prop :=
 if agg then ∃ vs, vs.length = sz ∧ R A o vs ∧ K (.a (vs.map .v)) else ∃ v, R A o [v] ∧ K (.c (.v v))
def ldO (K : SV → Prop) : Option SC → Prop
 | some y => K (.c y)
 | none => False
def ldE (sz : Nat) (agg : Bool) (o : Nat) (K : SV → Prop) : Option Ent → Prop
 | some (.cells _ cs) => o + sz ≤ cs.length ∧ if agg then K (.a ((cs.drop o).take sz)) else ldO K cs[o]?
 | _ => False
def ldS (sz : Nat) (agg : Bool) (L : Ents) (R : Option Addr → Nat → List Value → Prop) (K : SV → Prop) : SV → Prop
 | .c (.p k o) => ldE sz agg o K (look k L)
 | .c (.f A o) => ldF sz agg R A o K
 | _ => False
section
variable {X : List Nat} {P : Program} {s0 s : St} {K : St → Prop} {Kv : SV → Prop} {d : Option Nat} {r : IReg} {kd : Kd} {i : IOp}
theorem vcR_done : vcR X P .done s0 s K = K s := (rfl)
theorem vcR_op0 : vcR X P (.op kd i d none r) s0 s K = vcO X P kd i d s0 s (kR X P r s0 K) := (rfl)
theorem vcG_gs {t : Nat} {b : Bool} : ∀ v, gt s.t t = v → vcG (some (t, b)) s (vcO X P kd i d s0 s (kR X P r s0 K)) (vcR X P r s0 ⟨stO s.t d unS, s.L, s.z, s.n⟩ K) = guardS X P kd i d r s0 s K b v := by
 intro v hv
 unfold vcG
 dsimp only
 rw [hv]
 cases v with
 | c x => cases x with
  | v u => cases u with
   | bool q => cases b <;> cases q <;> simp [guardS, guardR]
   | _ => rfl
  | _ => rfl
 | _ => rfl
theorem vcR_opg {t : Nat} {b : Bool} : vcR X P (.op kd i d (some (t, b)) r) s0 s K = guardS X P kd i d r s0 s K b (gt s.t t) := vcG_gs _ rfl
theorem vcR_alt {a b : IReg} : vcR X P (.alt a b) s0 s K = (vcR X P a s0 s K ∧ vcR X P b s0 s K) := (rfl)
theorem kR_app : kR X P r s0 K s = vcR X P r s0 s K := (rfl)
theorem putK_app {v : SV} : putK d s K v = K ⟨stO s.t d v, s.L, s.z, s.n⟩ := (rfl)
theorem guardS_b {b q : Bool} : guardS X P kd i d r s0 s K b (.c (.v (.bool q))) = guardR X P kd i d r s0 s K b q := (rfl)
theorem guardS_u {b : Bool} {vs : Array Value} : guardS X P kd i d r s0 s K b (.c (.v (.tuple vs))) = vcR X P r s0 ⟨stO s.t d unS, s.L, s.z, s.n⟩ K := (rfl)
theorem guardR_tt : guardR X P kd i d r s0 s K true true = vcO X P kd i d s0 s (kR X P r s0 K) := (rfl)
theorem guardR_ff : guardR X P kd i d r s0 s K false false = vcO X P kd i d s0 s (kR X P r s0 K) := (rfl)
theorem guardR_tf : guardR X P kd i d r s0 s K true false = vcR X P r s0 ⟨stO s.t d unS, s.L, s.z, s.n⟩ K := (rfl)
theorem guardR_ft : guardR X P kd i d r s0 s K false true = vcR X P r s0 ⟨stO s.t d unS, s.L, s.z, s.n⟩ K := (rfl)
theorem guardR.split {b q : Bool} (h1 : q = true → guardR X P kd i d r s0 s K b true) (h2 : q = false → guardR X P kd i d r s0 s K b false) : guardR X P kd i d r s0 s K b q := by
 cases q with
 | true => exact h1 rfl
 | false => exact h2 rfl
theorem pickB_t {x y : SV} : pickB x y Kv true = Kv x := (rfl)
theorem pickB_f {x y : SV} : pickB x y Kv false = Kv y := (rfl)
theorem pickB.split {x y : SV} {q : Bool} (h1 : q = true → Kv x) (h2 : q = false → Kv y) : pickB x y Kv q := by
 cases q with
 | true => exact h1 rfl
 | false => exact h2 rfl
theorem pickS_b {x y : SV} {q : Bool} : pickS x y Kv (.c (.v (.bool q))) = pickB x y Kv q := (rfl)
theorem vcp_pickS {c a b : Operand} {t : List SV} : vcp (.pick c a b) t Kv = pickS (ev t a) (ev t b) Kv (ev t c) := by
 show (match ev t c with | .c (.v (.bool q)) => _ | _ => _) = _
 generalize ev t c = v
 cases v with
 | c x => cases x with
  | v u => cases u with
   | bool q => cases q <;> simp [pickS, pickB]
   | _ => rfl
  | _ => rfl
 | _ => rfl
theorem vcl_S {x : Operand} {sz : Nat} {agg : Bool} {t : List SV} {L : Ents} {R : Option Addr → Nat → List Value → Prop} : vcl x sz agg t L R Kv = ldS sz agg L R Kv (ev t x) := by
 unfold vcl
 generalize ev t x = v
 cases v with
 | c x => cases x with
  | p k o =>
   unfold ldS ldE
   dsimp only
   generalize look k L = e
   cases e with
   | none => rfl
   | some e => cases e with
    | cells e cs =>
     dsimp only
     cases agg
     ·simp only [Bool.false_eq_true, if_false]
      generalize cs[o]? = y
      cases y <;> rfl
     ·rfl
    | _ => rfl
  | _ => rfl
 | _ => rfl
theorem ldS_p {sz : Nat} {agg : Bool} {L : Ents} {R : Option Addr → Nat → List Value → Prop} {k o : Nat} : ldS sz agg L R Kv (.c (.p k o)) = ldE sz agg o Kv (look k L) := (rfl)
theorem ldS_f {sz : Nat} {agg : Bool} {L : Ents} {R : Option Addr → Nat → List Value → Prop} {A : Option Addr} {o : Nat} : ldS sz agg L R Kv (.c (.f A o)) = ldF sz agg R A o Kv := (rfl)
theorem ldE_a {sz o : Nat} {e : TypeId} {cs : List SC} : ldE sz true o Kv (some (.cells e cs)) = (o + sz ≤ cs.length ∧ Kv (.a ((cs.drop o).take sz))) := (rfl)
theorem ldE_c {sz o : Nat} {e : TypeId} {cs : List SC} : ldE sz false o Kv (some (.cells e cs)) = (o + sz ≤ cs.length ∧ ldO Kv cs[o]?) := (rfl)
theorem ldO_some {y : SC} : ldO Kv (some y) = Kv (.c y) := (rfl)
theorem ldF.agg {sz : Nat} {R : Option Addr → Nat → List Value → Prop} {A : Option Addr} {o : Nat} (vs : List Value) (h1 : vs.length = sz) (h2 : R A o vs) (h : Kv (.a (vs.map .v))) : ldF sz true R A o Kv := ⟨vs, h1, h2, h⟩
theorem ldF.one {sz : Nat} {R : Option Addr → Nat → List Value → Prop} {A : Option Addr} {o : Nat} (v : Value) (h2 : R A o [v]) (h : Kv (.c (.v v))) : ldF sz false R A o Kv := ⟨v, h2, h⟩
theorem vcO_p : vcO X P .p i d s0 s K = vcp i s.t (putK d s K) := (rfl)
theorem vcO_l {x : Operand} {sz : Nat} {agg : Bool} : vcO X P .l (.ld x sz agg) d s0 s K = vcl x sz agg s.t (remX X s0.L) (RdAt s0.z) (putK d s K) := (rfl)
theorem vcO_m : vcO X P .m i d s0 s K = vcM X P i d s K := (rfl)
theorem vcO_t : vcO X P .t i d s0 s K = vcT P i d s K := (rfl)
theorem vcm_ld {x : Operand} {sz : Nat} {agg : Bool} : vcm (.ld x sz agg) d s K = vcl x sz agg s.t s.L (RdS s.z s.L) (putK d s K) := (rfl)
theorem vcm_alc {e : TypeId} {z : List Value} : vcm (.alc e z) d s K = K ⟨stO s.t d (.c (.p s.n 0)), (s.n, .cells e (z.map .v)) :: s.L, s.z, s.n + 1⟩ := (rfl)
def boxS (e : TypeId) (d : Option Nat) (s : St) (K : St → Prop) : Option (List SC) → Prop
 | some cs => cs.all SC.one = true ∧ K ⟨stO s.t d (.c (.p s.n 0)), (s.n, .cells e cs) :: s.L, s.z, s.n + 1⟩
 | none => False
theorem vcm_box {e : TypeId} {x : Operand} : vcm (.box e x) d s K = boxS e d s K (cellsOf (ev s.t x)) := by
 unfold vcm
 dsimp only
 generalize cellsOf (ev s.t x) = y
 cases y <;> rfl
theorem boxS_some {e : TypeId} {cs : List SC} : boxS e d s K (some cs) = (cs.all SC.one = true ∧ K ⟨stO s.t d (.c (.p s.n 0)), (s.n, .cells e cs) :: s.L, s.z, s.n + 1⟩) := (rfl)
theorem vcm_bsl {e : TypeId} {sz len : Nat} {z : List Value} {ps : List (Nat × Operand)} : vcm (.bsl e sz len z ps) d s K = fillB s.t sz ps (repl z len) fun cs => K ⟨stO s.t d (.c (.s s.n 0 len len)), (s.n, .cells e cs) :: s.L, s.z, s.n + 1⟩ := (rfl)
def stoS3 (d : Option Nat) (s : St) (K : St → Prop) (sz k o : Nat) (e : TypeId) (cs : List SC) : Option (List SC) → Prop
 | some ds => (ds.all SC.one = true ∧ ds.length = sz ∧ o + ds.length ≤ cs.length) ∧ K ⟨stO s.t d unS, (k, .cells e (putAt cs o ds)) :: del k s.L, s.z, s.n⟩
 | none => False
def stoS2 (d : Option Nat) (s : St) (K : St → Prop) (sz k o : Nat) (y : SV) : Option Ent → Prop
 | some (.cells e cs) => stoS3 d s K sz k o e cs (cellsOf y)
 | _ => False
def stoS (d : Option Nat) (s : St) (K : St → Prop) (sz : Nat) (y : SV) : SV → Prop
 | .c (.p k o) => stoS2 d s K sz k o y (look k s.L)
 | _ => False
theorem vcm_sto {x y : Operand} {sz : Nat} : vcm (.sto x y sz) d s K = stoS d s K sz (ev s.t y) (ev s.t x) := by
 unfold vcm
 dsimp only
 generalize ev s.t x = v
 cases v with
 | c x => cases x with
  | p k o =>
   unfold stoS stoS2
   dsimp only
   generalize look k s.L = e
   cases e with
   | none => rfl
   | some e => cases e with
    | cells e cs =>
     unfold stoS3
     dsimp only
     generalize cellsOf (ev s.t y) = w
     cases w <;> rfl
    | _ => rfl
  | _ => rfl
 | _ => rfl
theorem stoS_p {sz k o : Nat} {y : SV} : stoS d s K sz y (.c (.p k o)) = stoS2 d s K sz k o y (look k s.L) := (rfl)
theorem stoS2_some {sz k o : Nat} {y : SV} {e : TypeId} {cs : List SC} : stoS2 d s K sz k o y (some (.cells e cs)) = stoS3 d s K sz k o e cs (cellsOf y) := (rfl)
theorem stoS3_some {sz k o : Nat} {e : TypeId} {cs ds : List SC} : stoS3 d s K sz k o e cs (some ds) = ((ds.all SC.one = true ∧ ds.length = sz ∧ o + ds.length ≤ cs.length) ∧ K ⟨stO s.t d unS, (k, .cells e (putAt cs o ds)) :: del k s.L, s.z, s.n⟩) := (rfl)
theorem vcm_mv (x : Operand) : vcm (.mv x) d s K = vcp (.mv x) s.t (putK d s K) := (rfl)
theorem vcm_pick (c a b : Operand) : vcm (.pick c a b) d s K = vcp (.pick c a b) s.t (putK d s K) := (rfl)
theorem vcm_ext (x : Operand) (i : Nat) : vcm (.ext x i) d s K = vcp (.ext x i) s.t (putK d s K) := (rfl)
theorem vcm_fld (x : Operand) (off sz : Nat) (agg : Bool) : vcm (.fld x off sz agg) d s K = vcp (.fld x off sz agg) s.t (putK d s K) := (rfl)
theorem vcm_nil (x : Operand) : vcm (.nil x) d s K = vcp (.nil x) s.t (putK d s K) := (rfl)
theorem vcm_fad (x : Operand) (off : Nat) : vcm (.fad x off) d s K = vcp (.fad x off) s.t (putK d s K) := (rfl)
theorem vcm_iad (x i : Operand) (sz : Nat) : vcm (.iad x i sz) d s K = vcp (.iad x i sz) s.t (putK d s K) := (rfl)
theorem vcm_slc (x : Operand) (lo hi : Option Operand) (sz : Nat) : vcm (.slc x lo hi sz) d s K = vcp (.slc x lo hi sz) s.t (putK d s K) := (rfl)
theorem vcm_sl3 (x : Operand) (lo : Option Operand) (hi mx : Operand) (sz : Nat) : vcm (.sl3 x lo hi mx sz) d s K = vcp (.sl3 x lo hi mx sz) s.t (putK d s K) := (rfl)
theorem vcm_bin (op : BinOp) (x y : Operand) : vcm (.bin op x y) d s K = vcp (.bin op x y) s.t (putK d s K) := (rfl)
theorem vcm_eqb (neg : Bool) (x y : Operand) : vcm (.eqb neg x y) d s K = vcp (.eqb neg x y) s.t (putK d s K) := (rfl)
theorem vcm_isn (neg : Bool) (x : Operand) : vcm (.isn neg x) d s K = vcp (.isn neg x) s.t (putK d s K) := (rfl)
theorem vcm_not (x : Operand) : vcm (.not x) d s K = vcp (.not x) s.t (putK d s K) := (rfl)
theorem vcm_cvi (k : IntKind) (x : Operand) : vcm (.cvi k x) d s K = vcp (.cvi k x) s.t (putK d s K) := (rfl)
theorem vcm_bld (z : List Value) (ps : List (Nat × Nat × Operand)) : vcm (.bld z ps) d s K = vcp (.bld z ps) s.t (putK d s K) := (rfl)
theorem vcm_len (x : Operand) : vcm (.len x) d s K = vcp (.len x) s.t (putK d s K) := (rfl)
theorem vcm_mn (x y : Operand) : vcm (.mn x y) d s K = vcp (.mn x y) s.t (putK d s K) := (rfl)
theorem vcm_mx (x y : Operand) : vcm (.mx x y) d s K = vcp (.mx x y) s.t (putK d s K) := (rfl)
theorem vcM_mv (x : Operand) : vcM X P (.mv x) d s K = vcm (.mv x) d s K := (rfl)
theorem vcT_mv (x : Operand) : vcT P (.mv x) d s K = vcm (.mv x) d s K := (rfl)
theorem vcM_pick (c a b : Operand) : vcM X P (.pick c a b) d s K = vcm (.pick c a b) d s K := (rfl)
theorem vcT_pick (c a b : Operand) : vcT P (.pick c a b) d s K = vcm (.pick c a b) d s K := (rfl)
theorem vcM_ext (x : Operand) (i : Nat) : vcM X P (.ext x i) d s K = vcm (.ext x i) d s K := (rfl)
theorem vcT_ext (x : Operand) (i : Nat) : vcT P (.ext x i) d s K = vcm (.ext x i) d s K := (rfl)
theorem vcM_fld (x : Operand) (off sz : Nat) (agg : Bool) : vcM X P (.fld x off sz agg) d s K = vcm (.fld x off sz agg) d s K := (rfl)
theorem vcT_fld (x : Operand) (off sz : Nat) (agg : Bool) : vcT P (.fld x off sz agg) d s K = vcm (.fld x off sz agg) d s K := (rfl)
theorem vcM_nil (x : Operand) : vcM X P (.nil x) d s K = vcm (.nil x) d s K := (rfl)
theorem vcT_nil (x : Operand) : vcT P (.nil x) d s K = vcm (.nil x) d s K := (rfl)
theorem vcM_fad (x : Operand) (off : Nat) : vcM X P (.fad x off) d s K = vcm (.fad x off) d s K := (rfl)
theorem vcT_fad (x : Operand) (off : Nat) : vcT P (.fad x off) d s K = vcm (.fad x off) d s K := (rfl)
theorem vcM_iad (x i : Operand) (sz : Nat) : vcM X P (.iad x i sz) d s K = vcm (.iad x i sz) d s K := (rfl)
theorem vcT_iad (x i : Operand) (sz : Nat) : vcT P (.iad x i sz) d s K = vcm (.iad x i sz) d s K := (rfl)
theorem vcM_slc (x : Operand) (lo hi : Option Operand) (sz : Nat) : vcM X P (.slc x lo hi sz) d s K = vcm (.slc x lo hi sz) d s K := (rfl)
theorem vcT_slc (x : Operand) (lo hi : Option Operand) (sz : Nat) : vcT P (.slc x lo hi sz) d s K = vcm (.slc x lo hi sz) d s K := (rfl)
theorem vcM_sl3 (x : Operand) (lo : Option Operand) (hi mx : Operand) (sz : Nat) : vcM X P (.sl3 x lo hi mx sz) d s K = vcm (.sl3 x lo hi mx sz) d s K := (rfl)
theorem vcT_sl3 (x : Operand) (lo : Option Operand) (hi mx : Operand) (sz : Nat) : vcT P (.sl3 x lo hi mx sz) d s K = vcm (.sl3 x lo hi mx sz) d s K := (rfl)
theorem vcM_bin (op : BinOp) (x y : Operand) : vcM X P (.bin op x y) d s K = vcm (.bin op x y) d s K := (rfl)
theorem vcT_bin (op : BinOp) (x y : Operand) : vcT P (.bin op x y) d s K = vcm (.bin op x y) d s K := (rfl)
theorem vcM_eqb (neg : Bool) (x y : Operand) : vcM X P (.eqb neg x y) d s K = vcm (.eqb neg x y) d s K := (rfl)
theorem vcT_eqb (neg : Bool) (x y : Operand) : vcT P (.eqb neg x y) d s K = vcm (.eqb neg x y) d s K := (rfl)
theorem vcM_isn (neg : Bool) (x : Operand) : vcM X P (.isn neg x) d s K = vcm (.isn neg x) d s K := (rfl)
theorem vcT_isn (neg : Bool) (x : Operand) : vcT P (.isn neg x) d s K = vcm (.isn neg x) d s K := (rfl)
theorem vcM_not (x : Operand) : vcM X P (.not x) d s K = vcm (.not x) d s K := (rfl)
theorem vcT_not (x : Operand) : vcT P (.not x) d s K = vcm (.not x) d s K := (rfl)
theorem vcM_cvi (k : IntKind) (x : Operand) : vcM X P (.cvi k x) d s K = vcm (.cvi k x) d s K := (rfl)
theorem vcT_cvi (k : IntKind) (x : Operand) : vcT P (.cvi k x) d s K = vcm (.cvi k x) d s K := (rfl)
theorem vcM_bld (z : List Value) (ps : List (Nat × Nat × Operand)) : vcM X P (.bld z ps) d s K = vcm (.bld z ps) d s K := (rfl)
theorem vcT_bld (z : List Value) (ps : List (Nat × Nat × Operand)) : vcT P (.bld z ps) d s K = vcm (.bld z ps) d s K := (rfl)
theorem vcM_len (x : Operand) : vcM X P (.len x) d s K = vcm (.len x) d s K := (rfl)
theorem vcT_len (x : Operand) : vcT P (.len x) d s K = vcm (.len x) d s K := (rfl)
theorem vcM_mn (x y : Operand) : vcM X P (.mn x y) d s K = vcm (.mn x y) d s K := (rfl)
theorem vcT_mn (x y : Operand) : vcT P (.mn x y) d s K = vcm (.mn x y) d s K := (rfl)
theorem vcM_mx (x y : Operand) : vcM X P (.mx x y) d s K = vcm (.mx x y) d s K := (rfl)
theorem vcT_mx (x y : Operand) : vcT P (.mx x y) d s K = vcm (.mx x y) d s K := (rfl)
theorem vcM_ld (x : Operand) (sz : Nat) (agg : Bool) : vcM X P (.ld x sz agg) d s K = vcm (.ld x sz agg) d s K := (rfl)
theorem vcT_ld (x : Operand) (sz : Nat) (agg : Bool) : vcT P (.ld x sz agg) d s K = vcm (.ld x sz agg) d s K := (rfl)
theorem vcM_alc (e : TypeId) (z : List Value) : vcM X P (.alc e z) d s K = vcm (.alc e z) d s K := (rfl)
theorem vcT_alc (e : TypeId) (z : List Value) : vcT P (.alc e z) d s K = vcm (.alc e z) d s K := (rfl)
theorem vcM_box (e : TypeId) (x : Operand) : vcM X P (.box e x) d s K = vcm (.box e x) d s K := (rfl)
theorem vcT_box (e : TypeId) (x : Operand) : vcT P (.box e x) d s K = vcm (.box e x) d s K := (rfl)
theorem vcM_bsl (e : TypeId) (sz len : Nat) (z : List Value) (ps : List (Nat × Operand)) : vcM X P (.bsl e sz len z ps) d s K = vcm (.bsl e sz len z ps) d s K := (rfl)
theorem vcT_bsl (e : TypeId) (sz len : Nat) (z : List Value) (ps : List (Nat × Operand)) : vcT P (.bsl e sz len z ps) d s K = vcm (.bsl e sz len z ps) d s K := (rfl)
theorem vcM_call {f : FuncId} {args : List Operand} : vcM X P (.call f args) d s K = callM P f args d s K := (rfl)
theorem vcM_app {t : TypeId} {a b : Operand} : vcM X P (.app t a b) d s K = appM P t a b d s K := (rfl)
theorem vcM_oth {op : Op} : vcM X P (.oth op) d s K = othM P op d s K := (rfl)
theorem vcT_call {f : FuncId} {args : List Operand} : vcT P (.call f args) d s K = callT P f args d s K := (rfl)
theorem vcT_app {t : TypeId} {a b : Operand} : vcT P (.app t a b) d s K = appT P t a b d s K := (rfl)
theorem vcT_oth {op : Op} : vcT P (.oth op) d s K = othT P op d s K := (rfl)
def stoM (X : List Nat) (x y : Operand) (sz : Nat) (d : Option Nat) (s : St) (K : St → Prop) : SV → Prop
 | .c (.p k _) => k ∈ X ∧ vcm (.sto x y sz) d s K
 | _ => False
def stoT (P : Program) (x y : Operand) (sz : Nat) (d : Option Nat) (s : St) (K : St → Prop) : SV → Prop
 | .c (.f _ _) => stoV P x y sz d s K
 | _ => vcm (.sto x y sz) d s K
theorem vcM_sto {x y : Operand} {sz : Nat} : vcM X P (.sto x y sz) d s K = stoM X x y sz d s K (ev s.t x) := by
 unfold vcM
 dsimp only
 generalize ev s.t x = v
 cases v with
 | c x => cases x <;> rfl
 | _ => rfl
theorem vcT_sto {x y : Operand} {sz : Nat} : vcT P (.sto x y sz) d s K = stoT P x y sz d s K (ev s.t x) := by
 unfold vcT
 dsimp only
 generalize ev s.t x = v
 cases v with
 | c x => cases x <;> rfl
 | _ => rfl
theorem stoM_p {x y : Operand} {sz k o : Nat} : stoM X x y sz d s K (.c (.p k o)) = (k ∈ X ∧ vcm (.sto x y sz) d s K) := (rfl)
theorem stoT_p {x y : Operand} {sz k o : Nat} : stoT P x y sz d s K (.c (.p k o)) = vcm (.sto x y sz) d s K := (rfl)
theorem stoT_f {x y : Operand} {sz o : Nat} {A : Option Addr} : stoT P x y sz d s K (.c (.f A o)) = stoV P x y sz d s K := (rfl)
end
section
variable {t : List SV} {Kv : SV → Prop}
theorem vcp_e_mv {x : Operand} : vcp (.mv x) t Kv = (Kv (ev t x)) := (rfl)
theorem vcp_e_ext {x : Operand} {i : Nat} : vcp (.ext x i) t Kv = (match ev t x with
   | .t xs => match xs[i]? with
    | some (.c y) => Kv (.c y)
    | some (.a ys) => Kv (.a ys)
    | none => False
   | _ => False) := (rfl)
theorem vcp_e_fld {x : Operand} {off sz : Nat} {agg : Bool} : vcp (.fld x off sz agg) t Kv = (match ev t x with
   | .a xs => if agg then Kv (.a ((xs.drop off).take sz)) else match xs[off]? with
    | some y => Kv (.c y)
    | none => False
   | _ => False) := (rfl)
theorem vcp_e_nil {x : Operand} : vcp (.nil x) t Kv = (match ev t x with
   | .c (.p k o) => Kv (.c (.p k o))
   | .c (.f A o) => Kv (.c (.f A o))
   | .c (.v (.pointer (some a))) => Kv (.c (.v (.pointer (some a))))
   | .c (.v (.func (.func f) b c)) => Kv (.c (.v (.func (.func f) b c)))
   | _ => False) := (rfl)
theorem vcp_e_fad {x : Operand} {off : Nat} : vcp (.fad x off) t Kv = (match ev t x with
   | .c (.p k o) => Kv (.c (.p k (o + off)))
   | .c (.f A o) => Kv (.c (.f A (o + off)))
   | _ => False) := (rfl)
theorem vcp_e_iad {x i : Operand} {sz : Nat} : vcp (.iad x i sz) t Kv = (match ev t x with
   | .c (.s k o n c) => match ev t i with
    | .c (.v (.int _ j)) => (0 ≤ j ∧ j < n) ∧ Kv (.c (.p k (o + j.toNat * sz)))
    | _ => False
   | .c (.v (.slice A n c)) => match ev t i with
    | .c (.v (.int _ j)) => (0 ≤ j ∧ j < n ∧ IsAt A) ∧ Kv (.c (.f A (j.toNat * sz)))
    | _ => False
   | _ => False) := (rfl)
theorem vcp_e_slc {x : Operand} {lo hi : Option Operand} {sz : Nat} : vcp (.slc x lo hi sz) t Kv = (match ev t x with
   | .c (.v (.slice A n c)) => match optI 0 t lo, optI n t hi with
    | some l, some h => (0 ≤ l ∧ l ≤ h ∧ (hi.isSome = true → h ≤ c)) ∧ Kv (.c (.v (.slice (cutA A c l.toNat sz) (h.toNat - l.toNat) (c - l.toNat))))
    | _, _ => False
   | _ => False) := (rfl)
theorem vcp_e_sl3 {x : Operand} {lo : Option Operand} {hi mx : Operand} {sz : Nat} : vcp (.sl3 x lo hi mx sz) t Kv = (match ev t x with
   | .c (.v (.slice A n c)) => match optI 0 t lo, optI 0 t (some hi), optI 0 t (some mx) with
    | some l, some h, some m => (0 ≤ l ∧ l ≤ h ∧ h ≤ m ∧ m ≤ c) ∧ Kv (.c (.v (.slice (cutA A m.toNat l.toNat sz) (h.toNat - l.toNat) (m.toNat - l.toNat))))
    | _, _, _ => False
   | _ => False) := (rfl)
theorem vcp_e_bin {op : BinOp} {x y : Operand} : vcp (.bin op x y) t Kv = (match ev t x with
   | .c (.v (.int k a)) => match ev t y with
    | .c (.v (.int k' b)) => binK op k a k' b fun r => Kv (.c (.v r))
    | _ => False
   | _ => False) := (rfl)
theorem vcp_e_eqb {neg : Bool} {x y : Operand} : vcp (.eqb neg x y) t Kv = (match ev t x with
   | .c (.v (.bool a)) => match ev t y with
    | .c (.v (.bool b)) => Kv (.c (.v (.bool (if neg then a != b else a == b))))
    | _ => False
   | _ => False) := (rfl)
theorem vcp_e_isn {neg : Bool} {x : Operand} : vcp (.isn neg x) t Kv = (match ev t x with
   | .c (.v (.slice A n c)) => Kv (.c (.v (.bool (if neg then A.isSome else A.isNone))))
   | _ => False) := (rfl)
theorem vcp_e_not {x : Operand} : vcp (.not x) t Kv = (match ev t x with
   | .c (.v (.bool a)) => Kv (.c (.v (.bool !a)))
   | _ => False) := (rfl)
theorem vcp_e_cvi {k : IntKind} {x : Operand} : vcp (.cvi k x) t Kv = (match ev t x with
   | .c (.v (.int _ n)) => Kv (.c (.v (.int k (k.wrap n))))
   | _ => False) := (rfl)
theorem vcp_e_bld {z : List Value} {ps : List (Nat × Nat × Operand)} : vcp (.bld z ps) t Kv = (fillS t ps (z.map .v) fun cs => Kv (.a cs)) := (rfl)
theorem vcp_e_len {x : Operand} : vcp (.len x) t Kv = (match ev t x with
   | .c (.v (.slice _ n _)) => Kv (.c (.v (.int .i64 n)))
   | .c (.s _ _ n _) => Kv (.c (.v (.int .i64 n)))
   | _ => False) := (rfl)
theorem vcp_e_mn {x y : Operand} : vcp (.mn x y) t Kv = (match ev t x with
   | .c (.v (.int k a)) => match ev t y with
    | .c (.v (.int _ b)) => Kv (.c (.v (.int k (if b < a then b else a))))
    | _ => False
   | _ => False) := (rfl)
theorem vcp_e_mx {x y : Operand} : vcp (.mx x y) t Kv = (match ev t x with
   | .c (.v (.int k a)) => match ev t y with
    | .c (.v (.int _ b)) => Kv (.c (.v (.int k (if b > a then b else a))))
    | _ => False
   | _ => False) := (rfl)
end
end Go.Proofs.YtllafcmkppmdgaaGreat
