/- The row of 'laws.FnWldMode': for each list of bytes the law returns true, and the list reads as it read before. Conditions: none beyond the row's own. -/
import Derived.Test.YtllafcmkppmdgaaGreatRows
import Derived.Test.YtllafcmkppmdgaaGreatB53
import Derived.WalkKit
import Derived.ProofKit
import Derived.OpenShut
import Derived.ShutString
import Derived.ChangeOld
import Derived.Below
import Derived.SizedLaws
namespace Go.Proofs.YtllafcmkppmdgaaGreat.fnWldMode
open Go.ChangeShapes Go.WideShapes Go.ChangeAt Go.RowKit
open Go.ChangeMaps (open_string shut_string)
set_option linter.unusedVariables false
set_option linter.unusedSimpArgs false
theorem own : ownKnob Tryz.prog.godebug = none := by kernel_rfl
theorem laidOut : laidOutB Tryz.prog = true := by kernel_rfl
def IsRow (k : IntKind) (w : World) (a : Option Addr) (len cap : Nat) (zs : List Int) : Prop :=
 (a = none ∧ len = 0 ∧ cap = 0 ∧ zs = []) ∨
 ∃ x, a = some x ∧ len ≤ cap ∧ cap ≤ maxLen ∧ zs.length = cap ∧ (∀ i, i < zs.length → w.cell? (x.add i) = some (.int k (zs.getD i 0))) ∧ ∀ n ∈ zs, (Lit.int k n).wf = true
def all (W : World) : Zc := ⟨fun _ => True, W⟩
theorem all_wok (W : World) : WOk ⟨W, fun _ => False, all W⟩ (all W) (fun _ => False) W :=
 ⟨rfl, rfl, rfl, Nat.le_refl _, Nat.le_refl _, fun _ _ => rfl, fun _ h => h.elim, fun _ _ _ => rfl, fun _ h => h.elim, fun _ h => .inl h, Zc.rfl' _⟩
theorem IsRow.by {W : World} {a : Option Addr} {len cap : Nat} {zs : List Int} (h : IsRow .u8 W a len cap zs) : ∃ l, By (all W) l (.slice a len cap) := by
 rcases h with ⟨rfl, rfl, rfl, rfl⟩ | ⟨x, rfl, hlc, hcm, hl, hc, hw⟩
 ·exact ⟨[], By.mk (Nat.le_refl _) (fun x hx => by cases hx) (RdAt.nil _ _ _)⟩
 ·have hlen : (zs.take len).length = len := by rw [List.length_take]; omega
  refine ⟨zs.take len, ?_⟩
  have key := By.mk (z := all W) (l := zs.take len) (A := some x) (c := cap) (by omega) (fun y hy => ?_) (fun hn => ?_)
  ·rw [hlen] at key; exact key
  ·have := hw y (List.mem_of_mem_take hy)
   have h : IntKind.u8.min ≤ y ∧ y ≤ IntKind.u8.max := by simpa [Lit.wf] using this
   exact h
  ·have h0 : 0 < zs.length := by
    cases zs with
    | nil => exact absurd (by simp [bc]) hn
    | cons _ _ => simp
   obtain ⟨b, o, rfl, hcell⟩ := ints_at hc h0
   refine ⟨b, o, rfl, ⟨trivial, World.block_lt_of_cell? _ ⟨b, o, none⟩ (hcell 0 h0)⟩, fun i u hu => ?_⟩
   simp only [bc, List.getElem?_map, Option.map_eq_some_iff] at hu
   obtain ⟨y, hy, rfl⟩ := hu
   rw [List.getElem?_take] at hy
   split at hy
   ·obtain ⟨hi, rfl⟩ := List.getElem?_eq_some_iff.1 hy
    have := hcell i hi
    show W.cell? _ = _
    simpa [List.getD, hi] using this
   ·cases hy
set_option maxRecDepth 100000 in
theorem lifted (os : Os) (started : os.Started) (H : Type) (enc : TypeId × Value → H) :
  ReturnsInHanded {} Tryz.checked os 9 .any (Rows.fnWldModeSpec.pre6 enc Tryz.prog Tryz.f9 Rows.fnWldModeRow.domain false) (Rows.fnWldModeSpec.post enc Tryz.prog Tryz.f9 false true false false) := by
 refine returnsInHanded_of_change_sized (C := Tryz.checked) own started (by kernel_rfl) Tryz.func9
  (ChangeSpec.witness6 (enc := enc) (C := Tryz.checked) false ⟨#[], #[.slice none 0 0], []⟩ 8 (by kernel_rfl) (by kernel_rfl) (by kernel_rfl) (by kernel_rfl)) ?_
 intro W base args ds gs before hval0 hW hcnd hsz0 _
 have hval : ∀ (j : Nat) t v, Tryz.f9.params[j]? = some t → args[j]? = some v → Value.okWide Tryz.prog W .any base t v := hval0
 have hW' := hW
 obtain ⟨p, q, hA0, hV, rfl, hfz, hnd⟩ := hW
 have hA : DataW.TrodAll enc Tryz.prog W 0 (fun _ => true) true Tryz.f9.params.toList args.toList ds p := hA0
 rw [Tryz.params9] at hA hval
 obtain ⟨v0, vs0, d0, ds0, p0, q0, hargs, rfl, rfl, h0, r0⟩ := trodAll_cons hA
 obtain ⟨rfl, rfl, rfl⟩ := trodAll_nil r0
 obtain rfl : args = #[v0] := by cases args; simp_all
 obtain ⟨rfl, rfl⟩ := trodVars_none hV
 obtain ⟨a0, len0, cap0, rfl⟩ := okWide_slice Tryz.underlying22 (hval 0 22 v0 rfl rfl)
 have k0 := h0
 have lt0 : ∀ x ∈ p0, x.block < W.heap.size := by obtain ⟨m, hm⟩ := k0; exact DataW.trod_lt m _ _ _ hm
 obtain ⟨z0, w0⟩ : ∃ zs, IsRow .u8 W a0 len0 cap0 zs := by
  obtain ⟨fuel, hf⟩ := h0
  rcases open_ints Tryz.underlying22 Tryz.underlying5 (by kernel_rfl) hf with ⟨hcs, _⟩ | ⟨x, l, c, zs, hcs, _, hl, hm, hz, _, hcell, hwz⟩
  ·simp [Value.cells] at hcs
   obtain ⟨rfl, rfl, rfl⟩ := hcs
   exact ⟨[], .inl ⟨rfl, rfl, rfl, rfl⟩⟩
  ·simp [Value.cells] at hcs
   obtain ⟨rfl, rfl, rfl⟩ := hcs
   exact ⟨zs, .inr ⟨_, rfl, hl, hm, by simpa using hz, hcell, hwz⟩⟩
 clear hA0 hval0 hsz0
 obtain ⟨l, hl⟩ := w0.by
 refine (wldMode_law l _ (all W) hl W (fun _ => False) (all_wok W) (fun _ h => h)).mono fun e W' ⟨v, z', A', F', he, ⟨_, hv⟩, _, ok⟩ => ?_
 subst he; subst hv
 have bel : Below W.heap.size W W' := ⟨ok.os, ok.tape, ok.output, ok.size, fun k hk => ok.unt k hk id⟩
 exact ⟨_, rfl, _, _, _, [], _, [], hW', trodAll_mk1 (shut_bool Tryz.underlying4 _), (trodAll_cons_mk (Below.trod laidOut (by kernel_rfl) (of_decide_eq_true (by kernel_rfl)) k0 bel lt0) trodAll_mk0), rfl, bel.frame _, fun h => by cases h⟩
theorem over : Rows.fnWldModeRow.holds Tryz.pinned (OpenSpec.ofChange Rows.fnWldModeSpec) :=
 OpenClaim.holds_of_wide 9 Tryz.f9 rfl rfl rfl rfl rfl rfl rfl ⟨rfl, rfl, rfl, rfl, rfl⟩ rfl rfl rfl rfl rfl (by kernel_rfl) Tryz.func9 (by kernel_rfl)
  (of_decide_eq_true (by kernel_rfl)) (by unfold Func.isWrapper; first | (rw [if_pos (by decide +kernel)]; kernel_rfl) | (rw [if_neg (by decide +kernel)]; exact ⟨rfl, rfl⟩))
  (fun os started H enc _ => lifted os started H enc)
theorem proved : Rows.FnWldModeSaid := over
#print axioms proved
end Go.Proofs.YtllafcmkppmdgaaGreat.fnWldMode
namespace Go.Proofs.YtllafcmkppmdgaaGreat
theorem fnWldMode_holds : Rows.FnWldModeSaid := fnWldMode.proved
end Go.Proofs.YtllafcmkppmdgaaGreat
