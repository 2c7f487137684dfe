/- The row and the card of the law of DskText. -/
import Derived.Test.YtohmnedenhngpaaDoorCards
import Derived.Test.YtohmnedenhngpaaDoorTie
import Derived.Test.YtohmnedenhngpaaDoorLawDskText
import Derived.ProofKit
import Derived.OpenShut
import Derived.ShutString
import Derived.ChangeOld
import Derived.OpenVars
import Derived.LaidMore
import Derived.Deep.DeepHandedRow
set_option linter.unusedVariables false
set_option linter.unusedSimpArgs false
namespace Go.Proofs.YtohmnedenhngpaaDoor.fnExactDskText
open Go.ChangeShapes Go.WideShapes Go.ChangeAt Go.RowKit Go.Proofs.YtohmnedenhngpaaDoorW.PrintWords
theorem own : ownKnob Tryd.prog.godebug = none := by kernel_rfl
theorem laidOut : laidOutB Tryd.prog = true := by kernel_rfl
theorem cellsI : Tryd.prog.cellsOf 3 = 1 := by kernel_rfl
theorem cellsB : Tryd.prog.cellsOf 22 = 1 := by kernel_rfl
theorem cellsE : Tryd.prog.cellsOf 24 = 5 := by kernel_rfl
def IsRow (k : IntKind) (w : World) (a : Option Addr) (len cap : Nat) (zs : List Int) : Prop :=
  (a = none ∧ len = 0 ∧ cap = 0 ∧ zs = []) ∨
  ∃ x, a = some x ∧ len ≤ cap ∧ cap ≤ maxLen ∧ zs.length = cap ∧ (∀ i, i < zs.length → w.cell? (x.add i) = some (.int k (zs.getD i 0))) ∧ ∀ n ∈ zs, (Lit.int k n).wf = true
theorem some_get {α : Type} {l : List α} (i : Nat) (h : i < l.length) : ∃ y, l[i]? = some y := ⟨l[i], List.getElem?_eq_getElem h⟩
set_option maxRecDepth 100000 in
theorem door_met (os : Os) (args : Array Value) : laidMetH Tryd.prog Rows.fnExactDskTextRow.laid ((World.doorLaid Tryd.prog 600 os).forCall (fun _ _ => 0) ⟨#[], args, []⟩).memory :=
  laidMetH_of_parts3 (fuel := 8) (laidMet_of_run' 8 (by kernel_rfl) (by kernel_rfl)) (by kernel_rfl) (by kernel_rfl)
def zeroArg : Value := .agg #[.int .i64 0, .int .i64 0, .int .i64 0, .int .i64 0, .slice none 0 0]
def zeroData {H : Type} : DataW H := .agg [.lit (.int .i64 0), .lit (.int .i64 0), .lit (.int .i64 0), .lit (.int .i64 0), .nil]
set_option maxRecDepth 100000 in
theorem reads (os : Os) {H : Type} (enc : TypeId × Value → H) : ∃ places, DataW.whole enc Tryd.prog ((World.doorLaid Tryd.prog 600 os).forCall (fun _ _ => 0) ⟨#[], #[zeroArg], []⟩).memory Tryd.f3.params.toList Rows.fnExactDskTextSpec.vars false #[zeroArg].toList 8 = some ([zeroData], [Rows.laid_loop_example_linkboy_impl_eventWords], places) := by
  have h : (DataW.whole enc Tryd.prog ((World.doorLaid Tryd.prog 600 os).forCall (fun _ _ => 0) ⟨#[], #[zeroArg], []⟩).memory Tryd.f3.params.toList Rows.fnExactDskTextSpec.vars false #[zeroArg].toList 8).map (fun x => (x.1, x.2.1)) = some ([zeroData], [Rows.laid_loop_example_linkboy_impl_eventWords]) := by kernel_rfl
  obtain ⟨x, h1, h2⟩ := Option.map_eq_some_iff.mp h
  obtain ⟨x1, x2, x3⟩ := x
  simp only [Prod.mk.injEq] at h2
  obtain ⟨rfl, rfl⟩ := h2
  exact ⟨x3, h1⟩
set_option maxRecDepth 100000 in
theorem hok (os : Os) : Input.okWideB Tryd.prog ((World.doorLaid Tryd.prog 600 os).forCall (fun _ _ => 0) ⟨#[], #[zeroArg], []⟩) 3 ⟨#[], #[zeroArg], []⟩ = true := by kernel_rfl
set_option maxRecDepth 100000 in
theorem contract (H : Type) (enc : TypeId × Value → H) (W : World) (base : Nat) (args : Array Value) (ds gs : List (DataW H)) (before : List MemPlace)
    (hval : ∀ (j : Nat) t v, Tryd.f3.params[j]? = some t → args[j]? = some v → Value.okWide Tryd.prog W .any base t v)
    (hW : DataW.Whole enc Tryd.prog Tryd.f3.params.toList Rows.fnExactDskTextSpec.vars false W args.toList ds gs before) (hL : laidMetH Tryd.prog Rows.fnExactDskTextRow.laid W) :
    Calls Tryd.prog 3 args W fun e W' => ∃ v, e = .returned v ∧ Rows.fnExactDskTextSpec.post enc Tryd.prog Tryd.f3 false true false false W args v W' := by
  have hW' := hW
  obtain ⟨p, q, hA0, hV, rfl, hfz, hnd⟩ := hW
  have hA : DataW.TrodAll enc Tryd.prog W 0 (fun _ => true) true Tryd.f3.params.toList args.toList ds p := hA0
  rw [Tryd.params3] at hA hval
  obtain ⟨v0, vs0, d0, ds0, p0, q0, hargs, rfl, rfl, h0, r0⟩ := trodAll_cons hA
  obtain ⟨rfl, rfl, rfl⟩ := trodAll_nil r0
  obtain rfl : args = #[v0] := by cases args; simp_all
  obtain ⟨cs, rfl, hcs⟩ := okWide_struct Tryd.underlying24 (hval 0 24 v0 rfl rfl)
  have k0 := h0
  have lt0 : ∀ x ∈ p0, x.block < W.heap.size := by obtain ⟨m, hm⟩ := k0; exact DataW.trod_lt m _ _ _ hm
  obtain ⟨a0, a1, a2, a3, A, len, cap, zs, rfl, hz⟩ : ∃ a0 a1 a2 a3 A len cap zs, cs = #[.int .i64 a0, .int .i64 a1, .int .i64 a2, .int .i64 a3, .slice A len cap] ∧ IsRow .u8 W A len cap zs := by
    obtain ⟨fuel, hf⟩ := h0
    obtain ⟨xs, n, rfl, hx, hl, hxl, hfd⟩ := DataW.trod_struct Tryd.underlying24 hf
    have hxl' : xs.length = 5 := hxl
    rw [cellsE] at hl
    have hcv : (Value.agg cs).cells.toList = cs.toList := by simp [Value.cells]
    rw [hcv] at hl hfd
    obtain ⟨l⟩ := cs
    simp only at hl hfd
    rcases l with _ | ⟨u0, _ | ⟨u1, _ | ⟨u2, _ | ⟨u3, _ | ⟨u4, _ | ⟨u5, l⟩⟩⟩⟩⟩⟩ <;> simp at hl
    obtain ⟨y0, e0⟩ := some_get (l := xs) 0 (by omega)
    obtain ⟨y1, e1⟩ := some_get (l := xs) 1 (by omega)
    obtain ⟨y2, e2⟩ := some_get (l := xs) 2 (by omega)
    obtain ⟨y3, e3⟩ := some_get (l := xs) 3 (by omega)
    obtain ⟨y4, e4⟩ := some_get (l := xs) 4 (by omega)
    have f0 := (hfd 0 _ rfl).trans e0
    have f1 := (hfd 1 _ rfl).trans e1
    have f2 := (hfd 2 _ rfl).trans e2
    have f3 := (hfd 3 _ rfl).trans e3
    have f4 := (hfd 4 _ rfl).trans e4
    obtain ⟨n0, g0, _⟩ := DataW.trod_int Tryd.underlying3 f0
    obtain ⟨n1, g1, _⟩ := DataW.trod_int Tryd.underlying3 f1
    obtain ⟨n2, g2, _⟩ := DataW.trod_int Tryd.underlying3 f2
    obtain ⟨n3, g3, _⟩ := DataW.trod_int Tryd.underlying3 f3
    change List.take (Tryd.prog.cellsOf 3) (List.drop 0 [u0, u1, u2, u3, u4]) = _ at g0
    change List.take (Tryd.prog.cellsOf 3) (List.drop 1 [u0, u1, u2, u3, u4]) = _ at g1
    change List.take (Tryd.prog.cellsOf 3) (List.drop 2 [u0, u1, u2, u3, u4]) = _ at g2
    change List.take (Tryd.prog.cellsOf 3) (List.drop 3 [u0, u1, u2, u3, u4]) = _ at g3
    rw [cellsI] at g0 g1 g2 g3
    simp only [List.drop_zero, List.drop_succ_cons, List.take_succ_cons, List.take_zero, List.cons.injEq, and_true] at g0 g1 g2 g3
    subst g0; subst g1; subst g2; subst g3
    rcases open_ints Tryd.underlying22 Tryd.underlying5 (by kernel_rfl) f4 with ⟨hcs4, _⟩ | ⟨x, l, c, zs, hcs4, _, hl4, hm, hz, _, hcell, hwz⟩
    · change List.take (Tryd.prog.cellsOf 22) (List.drop 4 [Value.int .i64 n0, Value.int .i64 n1, Value.int .i64 n2, Value.int .i64 n3, u4]) = _ at hcs4
      rw [cellsB] at hcs4
      simp only [List.drop_zero, List.drop_succ_cons, List.take_succ_cons, List.take_zero, List.cons.injEq, and_true] at hcs4
      subst hcs4
      exact ⟨n0, n1, n2, n3, none, 0, 0, [], rfl, .inl ⟨rfl, rfl, rfl, rfl⟩⟩
    · change List.take (Tryd.prog.cellsOf 22) (List.drop 4 [Value.int .i64 n0, Value.int .i64 n1, Value.int .i64 n2, Value.int .i64 n3, u4]) = _ at hcs4
      rw [cellsB] at hcs4
      simp only [List.drop_zero, List.drop_succ_cons, List.take_succ_cons, List.take_zero, List.cons.injEq, and_true] at hcs4
      subst hcs4
      exact ⟨n0, n1, n2, n3, _, _, _, zs, rfl, .inr ⟨_, rfl, hl4, hm, by simpa using hz, hcell, hwz⟩⟩
  have hV' := hV
  obtain ⟨gv, tv, csv, fuv, dv, pv, rfl, _⟩ := trodVars_one hV'
  obtain ⟨l0, rfl, hr0, hm0, hw0, hc0⟩ := ReadsInt.ofRowC hz
  have hb0 : ∀ x ∈ l0, 0 ≤ x ∧ x ≤ 255 := fun x hx => by
    have := hw0 x hx
    simp [Lit.wf, IntKind.min, IntKind.max, IntKind.signed, IntKind.bits] at this
    omega
  obtain ⟨ta, tc, hT⟩ := evTab_of (W := W) (by
    have := hL.filter (fun x => x.1 == "loop.example/linkboy/impl.eventWords")
    exact (laidMetH_iff.1 this).1)
  have hP : Lib.TabIs Tryd.prog W "internal/strconv.uint64pow10" .u64 Lib.pow10Tab := by
    have := (laidMetH_iff.1 (hL.filter (fun x => x.1 == "internal/strconv.uint64pow10"))).1
    exact Lib.tabIs_of_head (rest := []) gP10 (by kernel_rfl) Tryd.underlying91 Tryd.underlying76 (by kernel_rfl) (by kernel_rfl) this
  refine (law_walk a0 a1 a2 a3 A cap l0 W ta tc (Kd.C_of_reads (d := (0 : Int)) (h1 := fun _ => rfl) hr0) hc0 hb0 hm0 hT hP).mono fun e W' ⟨he, bel⟩ => ?_
  subst he
  exact ⟨_, rfl, _, _, _, [], _, _, hW', trodAll_mk1 (shut_bool Tryd.underlying4 _), (trodAll_cons_mk (Below.trod laidOut (by kernel_rfl) (of_decide_eq_true (by kernel_rfl)) k0 bel lt0) trodAll_mk0), Below.trodVars laidOut bel (by kernel_rfl) hV, bel.frame _, fun h => by cases h⟩
set_option maxRecDepth 100000 in
theorem lifted (os : Os) (started : os.Started) (H : Type) (enc : TypeId × Value → H) (F : Stop.Interp) :
    ReturnsInHanded {} Tryd.checked os 3 .any ((OpenSpec.ofChange Rows.fnExactDskTextSpec).preRow enc Tryd.prog Tryd.f3 Rows.fnExactDskTextRow.domain false Rows.fnExactDskTextRow.laid) (((OpenSpec.ofChange Rows.fnExactDskTextSpec).at F).post enc Tryd.prog Tryd.f3 false true false false) := by
  obtain ⟨places, hx⟩ := reads os enc
  refine returnsInHanded_of_row (C := Tryd.checked) (s := OpenSpec.ofChange Rows.fnExactDskTextSpec) own started (by kernel_rfl) Tryd.func3
    ⟨World.doorLaid Tryd.prog 600 os, fun _ _ => 0, ⟨#[], #[zeroArg], []⟩, rfl, World.shaped_of_RefB (by kernel_rfl) (by kernel_rfl), (Input.okWide_of_okWideB (base := 0) (hok os)).1, (Input.okWide_of_okWideB (hok os)).2,
      (OpenSpec.preRow_of_cond 8 hx (by kernel_rfl) (fun k hk => by cases hk) (by kernel_rfl) (door_met os _)), by
        simp only [Assume.holds]
        exact ⟨by simp, by simp, fun _ => Modest.zero, by simp, by simp⟩⟩ ?_
  intro W base args ds gs before hval hW _ _ _ hL _ _
  exact contract H enc W base args ds gs before hval hW hL
theorem said : Rows.FnExactDskTextSaid :=
  OpenClaim.holds_of_cond 3 Tryd.f3 rfl rfl rfl rfl rfl rfl rfl ⟨rfl, rfl, rfl, rfl, rfl⟩ rfl rfl rfl rfl rfl (by kernel_rfl) Tryd.func3 (by kernel_rfl)
    (of_decide_eq_true (by kernel_rfl)) (by unfold Func.isWrapper; first | (rw [if_pos (by decide +kernel)]; kernel_rfl) | (rw [if_neg (by decide +kernel)]; exact ⟨rfl, rfl⟩))
    (fun os started H enc _ F => by rw [OpenClaim.pre_eq_preRow]; exact lifted os started H enc F)
theorem plain (f : FuncId) (fn : Func) (hf : Tryd.pinned.checked.prog.funcNamed "loop.example/linkboy/laws.FnExactDskText" = some f) (hfn : Tryd.pinned.checked.prog.funcs[f]? = some fn) :
    true = Tryd.pinned.checked.prog.looks [] ∧ ∀ (j : Nat) t, fn.params[j]? = some t → Tryd.pinned.checked.prog.wantsStandIn t = false := by
  obtain rfl : f = 3 := Option.some.inj ((show Tryd.prog.funcNamed "loop.example/linkboy/laws.FnExactDskText" = some 3 by kernel_rfl).symm.trans hf) |>.symm
  obtain rfl : fn = Tryd.f3 := (Option.some.inj (Tryd.func3.symm.trans hfn)).symm
  refine ⟨by kernel_rfl, fun j t ht => ?_⟩
  rw [Tryd.params3] at ht
  have hm : t ∈ [24] := by simpa using Array.mem_of_getElem? ht
  obtain rfl : t = 24 := by simpa using hm
  exact (show Tryd.prog.wantsStandIn 24 = false by kernel_rfl)
theorem card : Rows.FnExactDskTextCardSaid :=
  Claim7.holds_tied_plain_at .later [] _ _ _ _ said (fun _ h => by cases h) (by kernel_rfl) (fun _ h => by cases h) fnExactDskText_row_tie rfl ⟨rfl, rfl⟩ (by kernel_rfl) rfl plain (by kernel_rfl)
#print axioms card
end Go.Proofs.YtohmnedenhngpaaDoor.fnExactDskText
namespace Go.Proofs.YtohmnedenhngpaaDoor
/-- The card, under a short name, for the claim. -/
theorem fnExactDskText_card_holds : Rows.FnExactDskTextCardSaid := fnExactDskText.card
end Go.Proofs.YtohmnedenhngpaaDoor
