/- The engine, seventh part: regions, code and calls keep what is said of them. -/
import Derived.Test.YtllafcmkppmdgaaGreatB1
namespace Go.Proofs.YtllafcmkppmdgaaGreat
open Go.RowKit
set_option linter.unusedVariables false
set_option linter.unusedSimpArgs false
section
variable {P : Program} {ops : Array Oper} {C : Ctx} {Q : Exit → Act → World → Prop} {K : St → Prop}
theorem Holds.remX (X : List Nat) {ρ : Nm} {w : World} : ∀ {L : Ents} {F : Nat → Prop}, Holds ρ w L F → ∃ F', Holds ρ w (remX X L) F' ∧ ∀ b, F' b → F b
 | [], F, h => ⟨F, h, fun _ h => h⟩
 | (k, e) :: L, F, ⟨F1, F2, h1, h2, hd, hF⟩ => by
  obtain ⟨F', g1, g2⟩ := Holds.remX X h2
  unfold Go.Proofs.YtllafcmkppmdgaaGreat.remX
  split
  ·exact ⟨F', g1, fun b hb => (hF b).2 (.inr (g2 b hb))⟩
  ·exact ⟨fun b => F1 b ∨ F' b, ⟨F1, F', h1, g1, fun b hb hf => hd b hb (g2 b hf), fun b => Iff.rfl⟩, fun b hb => (hF b).2 (hb.imp (fun x => x) (g2 b))⟩
theorem look_remX (X : List Nat) {k : Nat} {e : Ent} : ∀ (L : Ents), look k (remX X L) = some e → look k L = some e ∧ k ∉ X
 | [], h => by cases h
 | (j, x) :: L, h => by
  unfold remX at h
  split at h
  ·rename_i hj
   obtain ⟨h1, h2⟩ := look_remX X L h
   refine ⟨?_, h2⟩
   unfold look
   rw [if_neg (fun e => h2 (by subst e; simpa using hj))]; exact h1
  ·rename_i hj
   unfold look at h ⊢
   split at h
   ·rename_i hjk; rw [if_pos hjk]; exact ⟨h, fun hm => hj (by subst hjk; simpa using hm)⟩
   ·rename_i hjk; rw [if_neg hjk]; exact look_remX X L h
def Blk (X : List Nat) (ρ : Nm) (s : St) (b : Nat) : Prop := s.z.In b ∨ ∃ k e cs, look k s.L = some (.cells e cs) ∧ ρ[k]? = some b ∧ k ∉ X
def Keep (B : Nat → Prop) (w0 w : World) : Prop := ∀ b, B b → w.heap[b]? = w0.heap[b]?
theorem Cov.blk (X : List Nat) (ρ : Nm) (s : St) : Cov X (Blk X ρ s) ρ s := fun b h => h
structure RegI (X : List Nat) (T : List Nat) (listed : Array Bool) (ρ0 : Nm) (s0 : St) (w0 : World) (ρ : Nm) (s : St) (w : World) : Prop where
 pre : ρ0 <+: ρ
 keep : NoTail T listed → Keep (Blk X ρ0 s0) w0 w ∧ Cov X (Blk X ρ0 s0) ρ s
theorem nextL_of {i : Nat} {o : Oper} {a : Act} {w : World} (ho : ops[i]? = some o) (h : (Region.wanted o (yielded ops a.tmps) = true ∧ o.wp P a w (fun a' w' => Q .normal a' w') Q) ∨ (Region.wanted o (yielded ops a.tmps) = false ∧ Q .normal (a.put o.dst undef) w)) : NextL P ops Q i a w := by
 unfold NextL
 rw [ho]
 simp only [wpList]
 rcases h with ⟨h1, h2⟩ | ⟨h1, h2⟩
 ·rw [if_pos h1]; exact .inl h2
 ·rw [if_neg (by simp [h1])]; exact h2
theorem vcO_pure {kd : Kd} {o : Oper} {s0 s : St} {Kx : SV → Prop} {ρ : Nm} {a : Act} {w : World} (hs : Sat C ρ s a w) (hv : vcp (tr P o.op) s.t Kx) (hw : Region.wanted o (yielded ops a.tmps) = true) : ∃ sv v, Kx sv ∧ sv.den ρ v ∧ YieldsIf P ops (fun _ => True) o v a := by
 obtain ⟨sv, v, h1, h2, h3⟩ := vcp_sound rfl hv hs.fr
 exact ⟨sv, v, h1, h2, .inl ⟨hw, fun w _ => h3 w⟩⟩
theorem regS (X : List Nat) (hQ : Calm Q) (hsel : Region.noSelect ops = true) (T : List Nat) {s0 : St} {ρ0 : Nm} {a0 : Act} {w0 : World} (hs0 : Sat C ρ0 s0 a0 w0) (hK : ∀ s' ρ' a' w', K s' → Sat C ρ' s' a' w' → Q .normal a' w') :
  ∀ (pl : Plan) (n : Nat) (listed : Array Bool) (ir : IReg), trReg P ops T pl n listed = some ir → ∀ (s : St) (ρ : Nm) (a : Act) (w : World), vcR X P ir s0 s K → Sat C ρ s a w → RegI X T listed ρ0 s0 w0 ρ s w → Dc .any ops listed →
   wpAnyS P .any ops Q T (Keep (Blk X ρ0 s0) w0) n listed a w := by
 -- one operation that makes memory, or writes
 have memCase : ∀ (i : Nat) (r : IReg) (n : Nat) (listed : Array Bool) (o : Oper) (g : Option (Nat × Bool)) (s : St) (ρ : Nm) (a : Act) (w : World), ops[i]? = some o → gOf ops o = some g → Dc .any ops (listed.setIfInBounds i true) →
   (∀ (s : St) (ρ : Nm) (a : Act) (w : World), vcR X P r s0 s K → Sat C ρ s a w → RegI X T (listed.setIfInBounds i true) ρ0 s0 w0 ρ s w → wpAnyS P .any ops Q T (Keep (Blk X ρ0 s0) w0) n (listed.setIfInBounds i true) a w) →
   vcR X P (.op (if T.any fun j => (listed.setIfInBounds i true).getD j false then .t else .m) (tr P o.op) o.dst g r) s0 s K → Sat C ρ s a w → RegI X T listed ρ0 s0 w0 ρ s w →
   NextL P ops (RegK (IfS (Keep (Blk X ρ0 s0) w0)) (NoTail T (listed.setIfInBounds i true)) (wpAnyS P .any ops Q T (Keep (Blk X ρ0 s0) w0) n (listed.setIfInBounds i true)) Q) i a w := by
  intro i r n listed o g s ρ a w ho hg hdc hrest hv hs hI
  have hsub : NoTail T (listed.setIfInBounds i true) → NoTail T listed := fun h j hj => by
   by_cases hij : i = j
   ·have := h j hj
    subst hij
    cases hl : listed.getD i false with
    | false => rfl
    | true => rw [getD_set_true hl] at this; cases this
   ·have := h j hj; rwa [getD_set_ne false hij] at this
  refine nextL_of ho ?_
  rcases gOf_spec hg hs hv with ⟨hw, hv⟩ | ⟨hw, hv⟩
  ·refine .inl ⟨hw, ?_⟩
   by_cases hT : (T.any fun j => (listed.setIfInBounds i true).getD j false) = true
   ·rw [if_pos hT] at hv
    have hv := vcT_opT (o := o) hv
    refine Oper.wp_mono ?_ (hv C ρ a w _ hs)
    rintro a' w' ⟨s', ρ', h1, h2, h3, h4⟩
    have hno : ¬ NoTail T (listed.setIfInBounds i true) := fun h => by
     obtain ⟨j, hj, hl⟩ := List.any_eq_true.1 hT
     rw [h j hj] at hl; cases hl
    exact ⟨fun hn => absurd hn hno, hrest s' ρ' a' w' h1 h2 ⟨hI.pre.trans h3, fun hn => absurd hn hno⟩⟩
   ·rw [if_neg hT] at hv
    have hv := vcM_opX (o := o) hv
    refine Oper.wp_mono ?_ (hv C ρ a w _ hs)
    rintro a' w' ⟨s', ρ', h1, h2, h3⟩
    have hkeep : NoTail T (listed.setIfInBounds i true) → Keep (Blk X ρ0 s0) w0 w' ∧ Cov X (Blk X ρ0 s0) ρ' s' := fun hn => by
     obtain ⟨k1, k2⟩ := hI.keep (hsub hn)
     obtain ⟨k3, k4⟩ := h3.keep _ k2
     exact ⟨fun b hb => (k3 b hb).trans (k1 b hb), k4⟩
    exact ⟨fun hn => (hkeep hn).1, hrest s' ρ' a' w' h1 h2 ⟨hI.pre.trans h3.pre, hkeep⟩⟩
  ·refine .inr ⟨hw, ?_⟩
   have hs' : Sat C ρ ⟨stO s.t o.dst unS, s.L, s.z, s.n⟩ (a.put o.dst undef) w := hs.put o.dst rfl
   exact ⟨fun hn => (hI.keep (hsub hn)).1, hrest _ ρ _ w hv hs' ⟨hI.pre, fun hn => hI.keep (hsub hn)⟩⟩
 intro pl
 induction pl with
 | done =>
  intro n listed ir h s ρ a w hv hs hI hdc
  simp only [trReg] at h
  split at h
  ·rename_i hr
   injection h with h
   subst h
   exact wpAnyS_end n (by simpa using hr) (hK s ρ a w hv hs)
  ·cases h
 | pure i ld r ih =>
  intro n listed ir h s ρ a w hv hs hI hdc
  cases n with
  | zero => simp [trReg] at h
  | succ n =>
   simp only [trReg] at h
   split at h
   ·rename_i o ho
    split at h
    ·rename_i g hg
     split at h
     ·rename_i hc
      split at h
      ·rename_i r' hr'
       injection h with h
       subst h
       simp only [Bool.and_eq_true, Bool.not_eq_true', List.contains_iff_mem] at hc
       obtain ⟨⟨⟨hready, hfree⟩, hiT⟩, hl⟩ := hc
       have hiT : i ∉ T := fun hm => by rw [← List.contains_iff_mem] at hm; rw [hm] at hiT; cases hiT
       have hdc' := hdc.set hready
       have hNT : NoTail T (listed.setIfInBounds i true) → NoTail T listed := fun h => (noTail_set hiT).1 h
       have hIn : ∀ (t' : List SV), RegI X T (listed.setIfInBounds i true) ρ0 s0 w0 ρ ⟨t', s.L, s.z, s.n⟩ w := fun t' => ⟨hI.pre, fun hn => hI.keep (hNT hn)⟩
       have hS : NoTail T listed → Keep (Blk X ρ0 s0) w0 w := fun hn => (hI.keep hn).1
       cases ld with
       | false =>
        have key : ∃ sv v, vcR X P r' s0 ⟨stO s.t o.dst sv, s.L, s.z, s.n⟩ K ∧ sv.den ρ v ∧ YieldsIf P ops (fun _ => True) o v a := by
         rcases gOf_spec hg hs hv with ⟨hw, hv⟩ | ⟨hw, hv⟩
         ·exact vcO_pure (kd := .p) (s0 := s0) hs hv hw
         ·exact ⟨unS, undef, hv, rfl, .inr ⟨hw, rfl⟩⟩
        obtain ⟨sv, v, k1, k2, k3⟩ := key
        exact wpAnyS_firstY ho (Region.noSelect_spec hsel) hQ hiT n listed a w (Region.free_spec ho hfree) hready k3 hS (ih n _ r' hr' _ ρ _ w k1 (hs.put o.dst k2) (hIn _) hdc')
       | true =>
        have hreach : (T.all fun j => reach .any ops ops.size i j) = true := by simpa using hl
        have hSw := hS (noTail_of hdc hreach (mem_ready.1 hready).1)
        have key : ∃ sv v, vcR X P r' s0 ⟨stO s.t o.dst sv, s.L, s.z, s.n⟩ K ∧ sv.den ρ v ∧ YieldsIf P ops (Keep (Blk X ρ0 s0) w0) o v a := by
         rcases gOf_spec hg hs hv with ⟨hw, hv⟩ | ⟨hw, hv⟩
         ·simp only [if_true, vcO] at hv
          split at hv
          ·rename_i x sz agg hi
           obtain ⟨ty, m, h1, h2, rfl⟩ := tr_ld hi
           have hm0 : Mem C ρ s0.z (remX X s0.L) w0 := by
            obtain ⟨F, f1, f2⟩ := hs0.mem
            obtain ⟨F', g1, g2⟩ := (f1.ext hI.pre).remX X
            exact ⟨F', g1, ⟨f2.os, f2.tape, f2.output, f2.size, f2.zsize, f2.frz, fun b hb => f2.dis b (g2 b hb), f2.unt, fun b hb => f2.own b (g2 b hb), f2.zin, f2.zle⟩⟩
           obtain ⟨sv, v, b, k1, k2, k3, k4⟩ := vcl_spec (G := s0.z.In) (fun A o vs hn hr => hm0.rd hr hn) hv h2 hs.fr hm0
           refine ⟨sv, v, k1, k2, .inl ⟨hw, fun w1 hS1 => ?_⟩⟩
           unfold execOp
           simp only [h1]
           refine run_v (k4 w1 (hS1 b ?_))
           rcases k3 with k3 | ⟨k, e, cs, k3, k5⟩
           ·exact .inl k3
           ·obtain ⟨k6, k7⟩ := look_remX X s0.L k3
            refine .inr ⟨k, e, cs, k6, ?_, k7⟩
            obtain ⟨b', vs, g1, _⟩ := hs0.mem.cells k6
            have := pre_get hI.pre g1
            rw [k5] at this; injection this with this; rw [this]; exact g1
          ·exact hv.elim
         ·exact ⟨unS, undef, hv, rfl, .inr ⟨hw, rfl⟩⟩
        obtain ⟨sv, v, k1, k2, k3⟩ := key
        exact wpAnyS_first ho (Region.noSelect_spec hsel) hQ hiT hreach n listed a w hdc (Region.free_spec ho hfree) hready k3 hS (ih n _ r' hr' _ ρ _ w k1 (hs.put o.dst k2) (hIn _) hdc')
      ·cases h
     ·cases h
    ·cases h
   ·cases h
 | mem i r ih =>
  intro n listed ir h s ρ a w hv hs hI hdc
  cases n with
  | zero => simp [trReg] at h
  | succ n =>
   simp only [trReg] at h
   split at h
   ·rename_i o ho
    split at h
    ·rename_i g hg
     split at h
     ·rename_i hr
      split at h
      ·rename_i r' hr'
       injection h with h
       subst h
       have hr : Region.ready .any ops listed = [i] := by simpa using hr
       exact wpAnyS_mem (n + 1) rfl rfl hr hdc fun hdc' => memCase i r' n listed o g s ρ a w ho hg hdc' (fun s ρ a w hv hs hI => ih n _ r' hr' s ρ a w hv hs hI hdc') hv hs hI
      ·cases h
     ·cases h
    ·cases h
   ·cases h
 | alt i j ri rj ihi ihj =>
  intro n listed ir h s ρ a w hv hs hI hdc
  cases n with
  | zero => simp [trReg] at h
  | succ n =>
   simp only [trReg] at h
   split at h
   ·rename_i oi oj hoi hoj
    split at h
    ·rename_i gi gj hgi hgj
     split at h
     ·rename_i hr
      split at h
      ·rename_i ra rb hra hrb
       injection h with h
       subst h
       have hr : Region.ready .any ops listed = [i, j] := by simpa using hr
       exact wpAnyS_mem2 (n + 1) rfl rfl rfl hr hdc
        (fun hdc' => memCase i ra n listed oi gi s ρ a w hoi hgi hdc' (fun s ρ a w hv hs hI => ihi n _ ra hra s ρ a w hv hs hI hdc') hv.1 hs hI)
        (fun hdc' => memCase j rb n listed oj gj s ρ a w hoj hgj hdc' (fun s ρ a w hv hs hI => ihj n _ rb hrb s ρ a w hv hs hI hdc') hv.2 hs hI)
      ·cases h
     ·cases h
    ·cases h
   ·cases h
 | alt3 i j k ri rj rk ihi ihj ihk =>
  intro n listed ir h s ρ a w hv hs hI hdc
  cases n with
  | zero => simp [trReg] at h
  | succ n =>
   simp only [trReg] at h
   split at h
   ·rename_i oi oj ok hoi hoj hok
    split at h
    ·rename_i gi gj gk hgi hgj hgk
     split at h
     ·rename_i hr
      split at h
      ·rename_i ra rb rc hra hrb hrc
       injection h with h
       subst h
       have hr : Region.ready .any ops listed = [i, j, k] := by simpa using hr
       exact wpAnyS_mem3 (n + 1) rfl rfl rfl rfl hr hdc
        (fun hdc' => memCase i ra n listed oi gi s ρ a w hoi hgi hdc' (fun s ρ a w hv hs hI => ihi n _ ra hra s ρ a w hv hs hI hdc') hv.1 hs hI)
        (fun hdc' => memCase j rb n listed oj gj s ρ a w hoj hgj hdc' (fun s ρ a w hv hs hI => ihj n _ rb hrb s ρ a w hv hs hI hdc') hv.2.1 hs hI)
        (fun hdc' => memCase k rc n listed ok gk s ρ a w hok hgk hdc' (fun s ρ a w hv hs hI => ihk n _ rc hrc s ρ a w hv hs hI hdc') hv.2.2 hs hI)
      ·cases h
     ·cases h
    ·cases h
   ·cases h
theorem seqS : ∀ (l : List Oper) (ir : IReg), trSeq P ops l = some ir → ∀ (X : List Nat) (s0 s : St) (ρ : Nm) (a : Act) (w : World), vcR X P ir s0 s K → Sat C ρ s a w → (∀ s' ρ' a' w', K s' → Sat C ρ' s' a' w' → Q .normal a' w') → wpList P ops Q l a w
 | [], ir, h, X, s0, s, ρ, a, w, hv, hs, hK => by
  injection h with h
  subst h
  exact hK s ρ a w hv hs
 | o :: l, ir, h, X, s0, s, ρ, a, w, hv, hs, hK => by
  unfold trSeq at h
  split at h
  ·rename_i g r hg hr
   injection h with h
   subst h
   simp only [wpList]
   rcases gOf_spec hg hs hv with ⟨hw, hv⟩ | ⟨hw, hv⟩
   ·rw [if_pos hw]
    refine .inl (Oper.wp_mono ?_ (vcT_opT (o := o) hv C ρ a w _ hs))
    rintro a' w' ⟨s', ρ', h1, h2, _⟩
    exact seqS l r hr X s0 s' ρ' a' w' h1 h2 hK
   ·rw [if_neg (by simp [hw])]
    exact seqS l r hr X s0 _ ρ _ w hv (hs.put o.dst rfl) hK
  ·cases h
end
/-! Code. -/
inductive IC where
 | skip
 | reg (xs : List Tmp) (r : IReg)
 | join (xs : List Tmp) (r : IReg)
 | seq (a b : IC)
 | cond (c : Operand) (a b : IC)
 | block (id : Nat) (b : IC)
 | loop (b : IC)
 | exit (id : Nat)
 | ret
def VS (s : St) (G : St → Prop) : Prop := ∀ C ρ a w, Sat C ρ s a w → ∃ s' ρ', G s' ∧ Sat C ρ' s' a w
def plainE : Exit → Prop
 | .panic _ => False
 | .outgrown => False
 | _ => True
def Qof (C : Ctx) (K : Exit → St → Prop) (e : Exit) (a : Act) (w : World) : Prop := plainE e ∧ ∃ s ρ, K e s ∧ Sat C ρ s a w
theorem Qof.calm (C : Ctx) (K : Exit → St → Prop) : Calm (Qof C K) := fun d v c a w h => h.1.elim
def hasAlt : IReg → Bool
 | .done => false
 | .op _ _ _ _ r => hasAlt r
 | .alt _ _ => true
def trC (P : Program) (pl : List FuncId) : Code → Option IC
 | .skip => some .skip
 | .region id ops draw => if draw then
   if Region.noSelect ops && P.follows .mixedOrders then
    match trReg P ops (planOf P pl ops).2.1 (planOf P pl ops).2.2 ops.size (Array.replicate ops.size false) with
    | some r => some (if hasAlt r then .join (planOf P pl ops).1 r else .reg (planOf P pl ops).1 r)
    | none => none
   else none
  else match trSeq P ops ops.toList with
   | some r => some (.reg [] r)
   | none => none
 | .seq a b => match trC P pl a, trC P pl b with
  | some x, some y => some (.seq x y)
  | _, _ => none
 | .cond c a b => match trC P pl a, trC P pl b with
  | some x, some y => some (.cond c x y)
  | _, _ => none
 | .block id b => match trC P pl b with
  | some x => some (.block id x)
  | none => none
 | .loop b => match trC P pl b with
  | some x => some (.loop x)
  | none => none
 | .exit id => some (.exit id)
 | .ret => some .ret
 | _ => none
def loopV (P : Program) (ic : IC) (s : St) (K : Exit → St → Prop) : Prop := ∀ pl c, trC P pl c = some ic → ∀ C ρ a w, Sat C ρ s a w → (Code.loop c).wp P (Qof C K) a w
def joinV (r : IReg) (s : St) (V : (St → Prop) → Prop) (K : St → Prop) : Prop := ∃ J : St → Prop, V J ∧ ∀ s', J s' → K s'
def vcI (P : Program) : IC → St → (Exit → St → Prop) → Prop
 | .skip, s, K => K .normal s
 | .reg xs r, s, K => vcR (xnm s.t xs) P r s s (K .normal)
 | .join xs r, s, K => joinV r s (vcR (xnm s.t xs) P r s s) (K .normal)
 | .seq a b, s, K => vcI P a s fun e s' => match e with
  | .normal => VS s' fun s'' => vcI P b s'' K
  | e => K e s'
 | .cond c a b, s, K => match ev s.t c with
  | .c (.v (.bool q)) => (q = true → vcI P a s K) ∧ (q = false → vcI P b s K)
  | _ => False
 | .block id b, s, K => vcI P b s fun e s' => match e with
  | .exit id' => if id' = id then K .normal s' else K (.exit id') s'
  | e => K e s'
 | .loop b, s, K => loopV P b s K
 | .exit id, s, K => K (.exit id) s
 | .ret, s, K => K .ret s
section
variable {P : Program}
theorem vcI_sound {pl : List FuncId} : ∀ (c : Code) (ic : IC), trC P pl c = some ic → ∀ (s : St) (K : Exit → St → Prop) (C : Ctx) (ρ : Nm) (a : Act) (w : World), vcI P ic s K → Sat C ρ s a w → c.wp P (Qof C K) a w
 | .skip, ic, h, s, K, C, ρ, a, w, hv, hs => by
  injection h with h; subst h
  exact wp_skip ⟨trivial, s, ρ, hv, hs⟩
 | .region id ops draw, ic, h, s, K, C, ρ, a, w, hv, hs => by
  simp only [trC] at h
  split at h
  ·rename_i hdraw
   subst hdraw
   generalize (planOf P pl ops).1 = xs at h
   generalize (planOf P pl ops).2.1 = T at h
   generalize (planOf P pl ops).2.2 = p at h
   split at h
   ·rename_i hc
    simp only [Bool.and_eq_true] at hc
    split at h
    ·rename_i r hr
     injection h with h
     ·have key : ∀ (K' : St → Prop), (∀ s', K' s' → K .normal s') → vcR (xnm s.t xs) P r s s K' → (Code.region id ops true).wp P (Qof C K) a w := fun K' hK' hv' => by
       have hsd : Sat C ρ s a w.drew := ⟨hs.df, hs.fr, hs.nm, hs.mem.drew⟩
       refine wp_regionS (S := Keep (Blk (xnm s.t xs) ρ s) w.drew) T hc.2 (fun _ _ => rfl) fun hd hN => ?_
       exact regS (xnm s.t xs) (Qof.calm C K) hc.1 T hsd (fun s' ρ' a' w' hk hs' => ⟨trivial, s', ρ', hK' s' hk, hs'⟩) p ops.size _ r hr s ρ a w.drew hv' hsd ⟨List.prefix_rfl, fun _ => ⟨fun _ _ => rfl, Cov.blk _ ρ s⟩⟩ hd
      split at h
      ·subst h
       obtain ⟨J, h1, h2⟩ := hv
       exact key J h2 h1
      ·subst h
       exact key _ (fun _ h => h) hv
    ·cases h
   ·cases h
  ·rename_i hdraw
   have hdraw : draw = false := by simpa using hdraw
   subst hdraw
   split at h
   ·rename_i r hr
    injection h with h
    subst h
    refine wp_region ?_
    have e : wpOps P ops (Qof C K) (List.range ops.size) = wpList P ops (Qof C K) ops.toList := by
     have := wpOps_eq_wpList (P := P) (ops := ops) (Q := Qof C K) ops.toList 0 (fun j => by simp)
     rw [← this, List.range_eq_range']; simp
    rw [e]
    exact seqS ops.toList r hr _ s s ρ a w hv hs fun s' ρ' a' w' hk hs' => ⟨trivial, s', ρ', hk, hs'⟩
   ·cases h
 | .seq x y, ic, h, s, K, C, ρ, a, w, hv, hs => by
  simp only [trC] at h
  split at h
  ·rename_i ix iy hx hy
   injection h with h; subst h
   refine wp_seq (wp_mono (vcI_sound x ix hx s _ C ρ a w hv hs) ?_)
   rintro e a' w' ⟨hp, s', ρ', hk, hs'⟩
   cases e with
   | normal =>
    obtain ⟨s'', ρ'', g1, g2⟩ := hk C ρ' a' w' hs'
    exact vcI_sound y iy hy s'' K C ρ'' a' w' g1 g2
   | exit id => exact ⟨hp, s', ρ', hk, hs'⟩
   | goto l => exact ⟨hp, s', ρ', hk, hs'⟩
   | ret => exact ⟨hp, s', ρ', hk, hs'⟩
   | panic c => exact hp.elim
   | outgrown => exact hp.elim
  ·cases h
 | .cond c x y, ic, h, s, K, C, ρ, a, w, hv, hs => by
  simp only [trC] at h
  split at h
  ·rename_i ix iy hx hy
   injection h with h; subst h
   have hc := ev_den hs.fr c
   simp only [vcI] at hv
   split at hv
   ·rename_i q he
    rw [he] at hc
    have hc : a.eval c = .bool q := hc
    exact wp_cond_split hc (fun hq => vcI_sound x ix hx s K C ρ a w (hv.1 hq) hs) (fun hq => vcI_sound y iy hy s K C ρ a w (hv.2 hq) hs)
   ·exact hv.elim
  ·cases h
 | .block id b, ic, h, s, K, C, ρ, a, w, hv, hs => by
  simp only [trC] at h
  split at h
  ·rename_i ib hb
   injection h with h; subst h
   refine wp_block (wp_mono (vcI_sound b ib hb s _ C ρ a w hv hs) ?_)
   rintro e a' w' ⟨hp, s', ρ', hk, hs'⟩
   cases e with
   | exit id' =>
    simp only [Exit.inBlock] at hk ⊢
    by_cases hid : id' = id
    ·rw [if_pos hid] at hk ⊢; exact ⟨trivial, s', ρ', hk, hs'⟩
    ·rw [if_neg hid] at hk ⊢; exact ⟨trivial, s', ρ', hk, hs'⟩
   | normal => exact ⟨hp, s', ρ', hk, hs'⟩
   | goto l => exact ⟨hp, s', ρ', hk, hs'⟩
   | ret => exact ⟨hp, s', ρ', hk, hs'⟩
   | panic c => exact hp.elim
   | outgrown => exact hp.elim
  ·cases h
 | .loop b, ic, h, s, K, C, ρ, a, w, hv, hs => by
  simp only [trC] at h
  split at h
  ·rename_i ib hb
   injection h with h; subst h
   exact hv pl b hb C ρ a w hs
  ·cases h
 | .exit id, ic, h, s, K, C, ρ, a, w, hv, hs => by
  injection h with h; subst h
  exact wp_exit ⟨trivial, s, ρ, hv, hs⟩
 | .ret, ic, h, s, K, C, ρ, a, w, hv, hs => by
  injection h with h; subst h
  exact wp_ret ⟨trivial, s, ρ, hv, hs⟩
 | .rangeFunc .., ic, h, _, _, _, _, _, _, _, _ => by cases h
 | .scope _, ic, h, _, _, _, _, _, _, _, _ => by cases h
 | .label _, ic, h, _, _, _, _, _, _, _, _ => by cases h
 | .goto _, ic, h, _, _, _, _, _, _, _, _ => by cases h
 | .refuse _, ic, h, _, _, _, _, _, _, _, _ => by cases h
end
end Go.Proofs.YtllafcmkppmdgaaGreat
