/- The engine: what is behind a pointer that is handed in. · The engine: rows that grow, with their form. · The engine: a block is taken back, at some registers alone. · The engine: what ends a walk of two ends, in one step each, for merged texts. · Codes of functions, group Base. · What the small functions do: clones, ranges, numbers, what is ok. · Codes of functions, group List. · What the functions that go through lists do. -/
import Derived.Test.YtpblmlaahapohaaGreatD6
import Derived.Test.YtpblmlaahapohaaGreatD4
import Derived.Test.YtpblmlaahapohaaGreatD3
import Derived.Test.YtpblmlaahapohaaGreatProg
namespace Go.Proofs.YtpblmlaahapohaaGreat
open Go.RowKit
set_option linter.unusedVariables false
set_option linter.unusedSimpArgs false
def ptrA (e b : Nat) (vs : List Value) : Asrt where
  holds w F := w.heap[b]? = some (.cells vs.toArray e (0, 0)) ∧ ∀ x, F x ↔ x = b
  loc := fun h k => ⟨(k b ((h.2 b).2 rfl)).trans h.1, h.2⟩
  dom := fun h hb => by rw [(h.2 _).1 hb]; exact lt_of_heap h.1
def unV (j b : Nat) : SV → SV
  | .c (.f (some ⟨b', 0, none⟩) o) => if b' = b then .c (.p j o) else .c (.f (some ⟨b', 0, none⟩) o)
  | x => x
theorem unV_den {ρ : Nm} {j b : Nat} (hb : ρ[j]? = some b) (x : SV) (u : Value) (h : x.den ρ u) : (unV j b x).den ρ u := by
  unfold unV
  split
  · rename_i b' o
    split
    · rename_i e
      subst e
      obtain ⟨b0, o', e1, rfl⟩ := h
      injection e1 with e1
      injection e1 with e1 e2
      subst e1
      subst e2
      exact ⟨_, hb, by rw [Nat.zero_add]⟩
    · exact h
  · exact h
def vals (vs : List Value) : List SC := vs.map .v
theorem vals_den {ρ : Nm} : ∀ (vs : List Value), DL (SC.den ρ) (vals vs) vs
  | [] => trivial
  | v :: vs => ⟨rfl, vals_den vs⟩
section
variable {P : Program} {s : St} {K : St → Prop} {d : Option Nat}
def giveSt (s : St) (k j m b e : Nat) (vs : List Value) : St := ⟨s.t.map (subV j b), (k, .own (ptrA e b vs)) :: (m, .link j b) :: subL j b (del j s.L), s.z, s.n⟩
theorem Sat.give {C : Ctx} {ρ : Nm} {a : Act} {w : World} (k j m : Nat) {e : Nat} {cs : List SC} {vs : List Value} (hk : look j s.L = some (.cells e cs)) (hv : allV cs = some vs) (hs : Sat C ρ s a w) :
    ∃ b, ρ[j]? = some b ∧ Sat C ρ (giveSt s k j m b e vs) a w := by
  obtain ⟨F, hh, hw⟩ := hs.mem
  obtain ⟨F1, F2, ⟨b, us, a1, a2, a3, a4⟩, k2, kd, kF⟩ := hh.pick hk
  have hus := allV_den hv a2
  subst hus
  exact ⟨b, a1, hs.df, hs.fr.map_left (subV_den a1), hs.nm, F, ⟨F1, F2, ⟨a3, a4⟩, ⟨fun _ => False, F2, ⟨a1, fun _ h => h⟩, subL_holds a1 k2, fun _ h => h.elim, fun x => by simp⟩, kd, kF⟩, hw⟩
theorem opT.give {o : Oper} (k j m : Nat) {e : Nat} {cs : List SC} {vs : List Value} (hk : look j s.L = some (.cells e cs)) (hv : allV cs = some vs) (h : ∀ b, opT P o (giveSt s k j m b e vs) K) : opT P o s K := fun C ρ a w Q hs => by
  obtain ⟨b, _, hs'⟩ := hs.give k j m hk hv
  exact h b C ρ a w Q hs'
theorem callT.give {f : FuncId} {args : List Operand} (k j m : Nat) {e : Nat} {cs : List SC} {vs : List Value} (hk : look j s.L = some (.cells e cs)) (hv : allV cs = some vs) (h : ∀ b, callT P f args d (giveSt s k j m b e vs) K) : callT P f args d s K := fun o h1 h2 => opT.give k j m hk hv fun b => h b o h1 h2
theorem FinV.give {fr : List FR} {R : Value → Zc → Asrt → Prop} (k j m l : Nat) {e b : Nat} {cs : List SC} {vs : List Value} (hk : look j s.L = some (.cells e cs)) (hv : allV cs = some vs) (hl : look l s.L = some (.link j b)) (h : FinV fr (giveSt s k j m b e vs) R) : FinV fr s R := fun C ρ a w hs => by
  obtain ⟨b', h1, hs'⟩ := hs.give k j m hk hv
  obtain ⟨F, hh, hw⟩ := hs.mem
  obtain ⟨F1, F2, ⟨h2, _⟩, _⟩ := hh.pick hl
  rw [h1] at h2
  injection h2 with h2
  subst h2
  exact h C ρ a w hs'
def takeSt (s : St) (k j b e : Nat) (vs : List Value) : St := ⟨s.t.map (unV j b), (j, .cells e (vals vs)) :: del k s.L, s.z, s.n⟩
theorem Tf.take (k j m : Nat) {e b : Nat} {vs : List Value} (hk : look k s.L = some (.own (ptrA e b vs))) (hm : look m s.L = some (.link j b)) (hj : look j (del k s.L) = none) {C : Ctx} {ρ : Nm} {a : Act} {w : World} (hs : Sat C ρ s a w) : Sat C ρ (takeSt s k j b e vs) a w := by
  obtain ⟨F, hh, hw⟩ := hs.mem
  obtain ⟨G1, G2, ⟨h2, _⟩, _⟩ := hh.pick hm
  obtain ⟨F1, F2, ⟨a3, a4⟩, k2, kd, kF⟩ := hh.pick hk
  exact ⟨hs.df, hs.fr.map_left (unV_den h2), hs.nm, F, ⟨F1, F2, ⟨b, vs, h2, vals_den vs, a3, a4⟩, k2, kd, kF⟩, hw⟩
theorem vsI.take {ic : IC} {K : Exit → St → Prop} (k j m : Nat) {e b : Nat} {vs : List Value} (hk : look k s.L = some (.own (ptrA e b vs))) (hm : look m s.L = some (.link j b)) (hj : look j (del k s.L) = none) (h : vsI P ic K (takeSt s k j b e vs)) : vsI P ic K s := fun C ρ a w hs => h C ρ a w (Tf.take k j m hk hm hj hs)
theorem FinV.take {fr : List FR} {R : Value → Zc → Asrt → Prop} (k j m : Nat) {e b : Nat} {vs : List Value} (hk : look k s.L = some (.own (ptrA e b vs))) (hm : look m s.L = some (.link j b)) (hj : look j (del k s.L) = none) (h : FinV fr (takeSt s k j b e vs) R) : FinV fr s R := fun C ρ a w hs => h C ρ a w (Tf.take k j m hk hm hj hs)
end
theorem spec_enterP {P : Program} {f : FuncId} {fn : Func} {ic : IC} {fr : List FR} {pl : List FuncId} {b e : Nat} {vs : List Value} {args : List Value} {m : Nat} {z : Zc} {As : List Asrt} {R : Value → Zc → Asrt → Prop} (ks : List Nat)
    (hf : P.funcs[f]? = some fn) (hc : fn.body.bind (trC P pl) = some ic) (hr : fres P fn.results.toList = some fr) (hn : fn.ntmps = m) (hl : ks.length = As.length)
    (hv : vcI P ic ⟨.c (.p 0 0) :: (args.map ofV ++ List.replicate (m - (args.length + 1)) unS), (0, .cells e (vals vs)) :: (2000, .link 0 b) :: zipL ks As [], z, 1⟩ (postK fr R)) : Spec P f (.pointer (some ⟨b, 0, none⟩) :: args) z (starL (ptrA e b vs :: As)) R :=
  spec_enter hf hc hr hn fun C ρ a w hs => by
    have hρ : ρ = [] := List.eq_nil_of_length_eq_zero hs.nm
    subst hρ
    refine ⟨_, [b], hv, hs.df, ?_, rfl, ?_⟩
    · have hfr := hs.fr
      generalize a.tmps.toList = ts at hfr
      cases ts with
      | nil => exact hfr.elim
      | cons t ts =>
        obtain ⟨h1, h2⟩ := hfr
        refine ⟨⟨b, rfl, h1⟩, ?_⟩
        exact DL.mono (fun _ _ => SV.den.ext (List.nil_prefix)) h2
    · obtain ⟨F, ⟨F1, F2, ⟨G1, G2, ⟨g1, g2⟩, g3, gd, gF⟩, hE, kd, kF⟩, hw⟩ := hs.mem
      have hop : Holds [] w (zipL ks As []) G2 := by
        have := Holds.open' (ρ := []) (w := w) (k := 1000) (ks := ks) (L := []) (As := As) (F := G2) hl ⟨G2, fun _ => False, g3, fun _ h => h, fun _ _ h => h, fun b => by simp⟩
        exact this
      refine ⟨F, ⟨G1, G2, ⟨b, vs, rfl, vals_den vs, g1, g2⟩, ⟨fun _ => False, G2, ⟨rfl, fun _ h => h⟩, hop.ext List.nil_prefix, fun _ h => h.elim, fun x => by simp⟩, gd, fun x => ?_⟩, hw⟩
      rw [kF x, gF x]
      have := hE x
      simp [this]
section
variable {P : Program} {s : St} {K : St → Prop}
theorem opM.sat {o : Oper} {K' : St → Prop} (h : opM P o s K') (hk : ∀ s', K' s' → ∀ C ρ a w, Sat C ρ s' a w → K s') : opM P o s K := fun C ρ a w Q hs =>
  Oper.wp_mono (fun a' w' ⟨s', ρ', h1, h2, h3⟩ => ⟨s', ρ', hk s' h1 _ _ _ _ h2, h2, h3⟩) (h C ρ a w Q hs)
theorem Sat.formR {C : Ctx} {ρ : Nm} {a : Act} {w : World} (k : Nat) {e sz n : Nat} {v : Value} {cs : List Value} (hk : look k s.L = some (.own (rowA e sz v n cs))) (hs : Sat C ρ s a w) : ∃ A c, v = .slice A n c ∧ n ≤ c ∧ (0 < n → IsAt A) := by
  obtain ⟨F, hh, hw⟩ := hs.mem
  obtain ⟨F1, F2, ⟨hrow, _⟩, _⟩ := hh.pick hk
  rcases hrow.2 with ⟨e1, e0⟩ | ⟨g, o, cap, cur, e1, _, e2, _⟩
  · subst e0; exact ⟨none, 0, e1, Nat.le_refl _, fun h => absurd h (Nat.lt_irrefl _)⟩
  · exact ⟨_, _, e1, e2, fun _ => ⟨g, o, rfl⟩⟩
theorem appM_rowF (k : Nat) {t e sz : Nat} {x y : Operand} {d : Option Nat} (ht : AppTy P t e sz) {v : Value} {n : Nat} {cs : List Value} (hk : look k s.L = some (.own (rowA e sz v n cs))) (hk' : look k (del k s.L) = none) (hx : ev s.t x = .c (.v v))
    {A : Option Addr} {m c : Nat} {news : List Value} (hy : ev s.t y = .c (.v (.slice A m c))) (hr : RdAt s.z A 0 news) (hl : news.length = m * sz) (h1 : ∀ u ∈ news, u.oneCell' = true) (hb : n + m ≤ 1000000000)
    (hK : ∀ A' c', n + m ≤ c' → K ⟨stO s.t d (.c (.v (.slice A' (n + m) c'))), (k, .own (rowA e sz (.slice A' (n + m) c') (n + m) (cs ++ news))) :: del k s.L, s.z, s.n⟩) : appM P t x y d s K := fun o ho hd =>
  opM.sat (appM_row (K := fun s' => ∃ v', s' = ⟨stO s.t d (.c (.v v')), (k, .own (rowA e sz v' (n + m) (cs ++ news))) :: del k s.L, s.z, s.n⟩) k ht hk hk' hx hy hr hl h1 hb (fun v' => ⟨v', rfl⟩) o ho hd) fun s' ⟨v', e'⟩ C ρ a w hs => by
    subst e'
    obtain ⟨A', c', e1, e2, _⟩ := hs.formR k (by show (if k = k then _ else _) = _; rw [if_pos rfl])
    subst e1
    exact hK A' c' e2
theorem appM_newF (k : Nat) {t e sz : Nat} {x y : Operand} {d : Option Nat} (ht : AppTy P t e sz) {v : Value} {n : Nat} {cs : List Value} (hk : look k s.L = some (.own (rowA e sz v n cs))) (hk' : look k (del k s.L) = none) (hx : ev s.t x = .c (.v v))
    {j m c e' : Nat} {cj : List SC} {news : List Value} (hy : ev s.t y = .c (.s j 0 m c)) (hj : look j s.L = some (.cells e' cj)) (hcj : allV cj = some news) (hl : news.length = m * sz) (h1 : ∀ u ∈ news, u.oneCell' = true) (hb : n + m ≤ 1000000000)
    (hK : ∀ A' c', n + m ≤ c' → IsAt A' ∨ m = 0 → K ⟨stO s.t d (.c (.v (.slice A' (n + m) c'))), (k, .own (rowA e sz (.slice A' (n + m) c') (n + m) (cs ++ news))) :: del k s.L, s.z, s.n⟩) : appM P t x y d s K := fun o ho hd =>
  opM.sat (appM_new (K := fun s' => ∃ v', s' = ⟨stO s.t d (.c (.v v')), (k, .own (rowA e sz v' (n + m) (cs ++ news))) :: del k s.L, s.z, s.n⟩) k ht hk hk' hx hy hj hcj hl h1 hb (fun v' => ⟨v', rfl⟩) o ho hd) fun s' ⟨v', e'⟩ C ρ a w hs => by
    subst e'
    obtain ⟨A', c', e1, e2, e3⟩ := hs.formR k (by show (if k = k then _ else _) = _; rw [if_pos rfl])
    subst e1
    refine hK A' c' e2 ?_
    rcases Nat.eq_zero_or_pos m with h0 | h0
    · exact .inr h0
    · exact .inl (e3 (by omega))
end
theorem unst_den {ρ : Nm} {j b : Nat} (hb : ρ[j]? = some b) : ∀ {t : List SV} {us : List Value} (d : Nat), DL (SV.den ρ) t us → DL (SV.den ρ) (st t d (unV j b (gt t d))) us
  | [], [], d, h => by cases d <;> exact h
  | x :: t, u :: us, 0, h => ⟨unV_den hb x u h.1, h.2⟩
  | x :: t, u :: us, d + 1, h => ⟨h.1, unst_den hb d h.2⟩
  | [], _ :: _, _, h => h.elim
  | _ :: _, [], _, h => h.elim
def unAt (j b : Nat) : List Nat → List SV → List SV
  | [], t => t
  | d :: ds, t => unAt j b ds (st t d (unV j b (gt t d)))
theorem unAt_den {ρ : Nm} {j b : Nat} (hb : ρ[j]? = some b) : ∀ (ds : List Nat) {t : List SV} {us : List Value}, DL (SV.den ρ) t us → DL (SV.den ρ) (unAt j b ds t) us
  | [], _, _, h => h
  | d :: ds, _, _, h => unAt_den hb ds (unst_den hb d h)
section
variable {P : Program} {s : St}
def takeSt' (s : St) (ds : List Nat) (k j b e : Nat) (vs : List Value) : St := ⟨unAt j b ds s.t, (j, .cells e (vals vs)) :: del k s.L, s.z, s.n⟩
theorem Tf.take' (ds : List Nat) (k j m : Nat) {e b : Nat} {vs : List Value} (hk : look k s.L = some (.own (ptrA e b vs))) (hm : look m s.L = some (.link j b)) (hj : look j (del k s.L) = none) {C : Ctx} {ρ : Nm} {a : Act} {w : World} (hs : Sat C ρ s a w) : Sat C ρ (takeSt' s ds k j b e vs) a w := by
  obtain ⟨F, hh, hw⟩ := hs.mem
  obtain ⟨G1, G2, ⟨h2, _⟩, _⟩ := hh.pick hm
  obtain ⟨F1, F2, ⟨a3, a4⟩, k2, kd, kF⟩ := hh.pick hk
  exact ⟨hs.df, unAt_den h2 ds hs.fr, hs.nm, F, ⟨F1, F2, ⟨b, vs, h2, vals_den vs, a3, a4⟩, k2, kd, kF⟩, hw⟩
theorem vsI.take' {ic : IC} {K : Exit → St → Prop} (ds : List Nat) (k j m : Nat) {e b : Nat} {vs : List Value} (hk : look k s.L = some (.own (ptrA e b vs))) (hm : look m s.L = some (.link j b)) (hj : look j (del k s.L) = none) (h : vsI P ic K (takeSt' s ds k j b e vs)) : vsI P ic K s := fun C ρ a w hs => h C ρ a w (Tf.take' ds k j m hk hm hj hs)
theorem FinV.take' {fr : List FR} {R : Value → Zc → Asrt → Prop} (ds : List Nat) (k j m : Nat) {e b : Nat} {vs : List Value} (hk : look k s.L = some (.own (ptrA e b vs))) (hm : look m s.L = some (.link j b)) (hj : look j (del k s.L) = none) (h : FinV fr (takeSt' s ds k j b e vs) R) : FinV fr s R := fun C ρ a w hs => h C ρ a w (Tf.take' ds k j m hk hm hj hs)
end
theorem wF1 {A B : Prop} (h : B) (f : B → A := by intro h; refine FinV.give 1000 0 2001 2000 rfl rfl rfl ?_; simp only [seval, go_sem, giveSt, subV, subC, subE, subL]; refine FinV.pk 999 [1000, 10, 11, 22, 23, 32, 33, 40, 41, 50, 51] ?_; dsimp only; refine fP ?_; exact h) : A := f h
theorem wF3 {A B : Prop} (h : B) (f : B → A := by intro h; refine FinV.give 1000 0 2003 2000 rfl rfl rfl ?_; simp only [seval, go_sem, giveSt, subV, subC, subE, subL]; refine FinV.pk 999 [1000, 10, 11, 22, 23, 32, 33, 40, 41, 50, 51] ?_; dsimp only; refine fP ?_; exact h) : A := f h
theorem wF5 {A B : Prop} (h : B) (f : B → A := by intro h; refine FinV.give 1000 0 2005 2000 rfl rfl rfl ?_; simp only [seval, go_sem, giveSt, subV, subC, subE, subL]; refine FinV.pk 999 [1000, 10, 11, 22, 23, 32, 33, 40, 41, 50, 51] ?_; dsimp only; refine fP ?_; exact h) : A := f h
theorem wC {A B : Prop} (h : B) (f : B → A := by intro h; refine tT ?_; refine callM.pk 94 [93, 10, 11, 22, 23, 32, 33, 40, 41, 50, 51] ?_; dsimp only; exact h) : A := f h
theorem wD {A B : Prop} (h : B) (f : B → A := by intro h; refine tT ?_; refine callM.pk 91 [90, 10, 11, 22, 23, 32, 33, 40, 41, 50, 51] ?_; dsimp only; exact h) : A := f h
theorem wO {A B : Prop} (h : B) (f : B → A := by intro h; refine FinV.tf (Tf.open' 94 [95, 10, 11, 22, 23, 32, 33, 40, 41, 50, 51] rfl rfl rfl) ?_; simp only [seval, go_sem, zipL]; refine FinV.take' [0] 95 0 2003 rfl rfl rfl ?_; simp only [seval, go_sem, takeSt', unAt, unV, vals]; exact h) : A := f h
theorem wS {A B : Prop} (h : B) (f : B → A := by intro h; refine FinV.pk 999 [10, 11, 20, 21, 22, 23, 30, 31, 32, 33, 40, 41, 50, 51] ?_; dsimp only; refine fP ?_; exact h) : A := f h
theorem wT {A B : Prop} (h : B) (f : B → A := by intro h; refine tT ?_; refine callM.pk 999 [10, 11, 20, 21, 22, 23, 30, 31, 32, 33, 40, 41, 50, 51] ?_; dsimp only; exact h) : A := f h
set_option maxRecDepth 100000
set_option maxHeartbeats 4000000
def ic36 : IC := (xR (xt (.mv (.const zS)) 2 .done) (xR (xtM 0 3 (xt (.call 59 [xr 3]) 4 (xt (.call 58 [xr 4]) 5 (xtM 5 2 .done)))) .ret))
theorem ic36_ok : Tryz.f36.body.bind (trC Tryz.prog []) = some ic36 := by kernel_rfl
def fr36 : List FR := [(FR.t 2)]
theorem fr36_ok : fres Tryz.prog Tryz.f36.results.toList = some fr36 := by kernel_rfl
def ic140 : IC := (xR (xt (.mv (.const zS)) 2 .done) (xR (xtM 0 3 (xt (.call 155 [xr 3]) 4 (xt (.call 154 [xr 4]) 5 (xtM 5 2 .done)))) .ret))
theorem ic140_ok : Tryz.f140.body.bind (trC Tryz.prog []) = some ic140 := by kernel_rfl
def fr140 : List FR := [(FR.t 2)]
theorem fr140_ok : fres Tryz.prog Tryz.f140.results.toList = some fr140 := by kernel_rfl
def ic81 : IC := (xR (xt (.mv (.const zS)) 2 .done) (xR (xtM 0 3 (xt (.call 111 [xr 3]) 4 (xt (.call 110 [xr 4]) 5 (xtM 5 2 .done)))) .ret))
theorem ic81_ok : Tryz.f81.body.bind (trC Tryz.prog []) = some ic81 := by kernel_rfl
def fr81 : List FR := [(FR.t 2)]
theorem fr81_ok : fres Tryz.prog Tryz.f81.results.toList = some fr81 := by kernel_rfl
def ic59 : IC := (xR (xt (.mv (.const zS)) 2 .done) (.seq (xR (xtM 0 3 (xt (.isn false (xr 3)) 4 .done)) (.cond (xr 4) (xR (xt (.mv (.const zS)) 2 .done) .ret) .skip)) (xR (xt (.bsl 5 1 0 [(.int .u8 0)] []) 5 (xtM 0 6 (xt (.app 22 (xr 5) (xr 6)) 7 (xtM 7 2 .done)))) .ret)))
theorem ic59_ok : Tryz.f59.body.bind (trC Tryz.prog []) = some ic59 := by kernel_rfl
def fr59 : List FR := [(FR.t 2)]
theorem fr59_ok : fres Tryz.prog Tryz.f59.results.toList = some fr59 := by kernel_rfl
def ic58 : IC := (xR (xt (.mv (.const zS)) 2 .done) (xR (xtM 0 3 (xtM 0 4 (xtL 4 5 (xtM 0 6 (xtL 6 7 (xt (.sl3 (xr 3) none (xr 5) (xr 7) 1) 8 (xtM 8 2 .done))))))) .ret))
theorem ic58_ok : Tryz.f58.body.bind (trC Tryz.prog []) = some ic58 := by kernel_rfl
def fr58 : List FR := [(FR.t 2)]
theorem fr58_ok : fres Tryz.prog Tryz.f58.results.toList = some fr58 := by kernel_rfl
def ic155 : IC := (xR (xt (.mv (.const zS)) 2 .done) (.seq (xR (xtM 0 3 (xt (.isn false (xr 3)) 4 .done)) (.cond (xr 4) (xR (xt (.mv (.const zS)) 2 .done) .ret) .skip)) (xR (xt (.bsl 123 3 0 [zI, zI, zS] []) 5 (xtM 0 6 (xt (.app 44 (xr 5) (xr 6)) 7 (xtM 7 2 .done)))) .ret)))
theorem ic155_ok : Tryz.f155.body.bind (trC Tryz.prog []) = some ic155 := by kernel_rfl
def fr155 : List FR := [(FR.t 2)]
theorem fr155_ok : fres Tryz.prog Tryz.f155.results.toList = some fr155 := by kernel_rfl
def ic154 : IC := (xR (xt (.mv (.const zS)) 2 .done) (xR (xtM 0 3 (xtM 0 4 (xtL 4 5 (xtM 0 6 (xtL 6 7 (xt (.sl3 (xr 3) none (xr 5) (xr 7) 3) 8 (xtM 8 2 .done))))))) .ret))
theorem ic154_ok : Tryz.f154.body.bind (trC Tryz.prog []) = some ic154 := by kernel_rfl
def fr154 : List FR := [(FR.t 2)]
theorem fr154_ok : fres Tryz.prog Tryz.f154.results.toList = some fr154 := by kernel_rfl
def ic111 : IC := (xR (xt (.mv (.const zS)) 2 .done) (.seq (xR (xtM 0 3 (xt (.isn false (xr 3)) 4 .done)) (.cond (xr 4) (xR (xt (.mv (.const zS)) 2 .done) .ret) .skip)) (xR (xt (.bsl 59 2 0 [zB, zS] []) 5 (xtM 0 6 (xt (.app 39 (xr 5) (xr 6)) 7 (xtM 7 2 .done)))) .ret)))
theorem ic111_ok : Tryz.f111.body.bind (trC Tryz.prog []) = some ic111 := by kernel_rfl
def fr111 : List FR := [(FR.t 2)]
theorem fr111_ok : fres Tryz.prog Tryz.f111.results.toList = some fr111 := by kernel_rfl
def ic110 : IC := (xR (xt (.mv (.const zS)) 2 .done) (xR (xtM 0 3 (xtM 0 4 (xtL 4 5 (xtM 0 6 (xtL 6 7 (xt (.sl3 (xr 3) none (xr 5) (xr 7) 2) 8 (xtM 8 2 .done))))))) .ret))
theorem ic110_ok : Tryz.f110.body.bind (trC Tryz.prog []) = some ic110 := by kernel_rfl
def fr110 : List FR := [(FR.t 2)]
theorem fr110_ok : fres Tryz.prog Tryz.f110.results.toList = some fr110 := by kernel_rfl
def ic27 : IC := (xR (xt (.mv (xb false)) 6 .done) (xR (xtM 0 7 (xtM 1 8 (xt (.bin .geq (xr 7) (xr 8)) 9 (xtM 9 10 (xG (.mv (xr 0)) 11 10 true (xG (.mv (xr 2)) 12 10 true (xG (.bin .leq (xr 11) (xr 12)) 13 10 true (xt (.pick (xr 10) (xr 13) (xb false)) 14 (xtM 14 6 .done))))))))) .ret))
theorem ic27_ok : Tryz.f27.body.bind (trC Tryz.prog []) = some ic27 := by kernel_rfl
def fr27 : List FR := [(FR.t 6)]
theorem fr27_ok : fres Tryz.prog Tryz.f27.results.toList = some fr27 := by kernel_rfl
def ic65 : IC := (xR (xt (.mv (xb false)) 6 .done) (xR (xtM 0 7 (xtM 1 8 (xt (.bin .geq (xr 7) (xr 8)) 9 (xtM 9 10 (xG (.mv (xr 0)) 11 10 true (xG (.mv (xr 2)) 12 10 true (xG (.bin .leq (xr 11) (xr 12)) 13 10 true (xt (.pick (xr 10) (xr 13) (xb false)) 14 (xtM 14 6 .done))))))))) .ret))
theorem ic65_ok : Tryz.f65.body.bind (trC Tryz.prog []) = some ic65 := by kernel_rfl
def fr65 : List FR := [(FR.t 6)]
theorem fr65_ok : fres Tryz.prog Tryz.f65.results.toList = some fr65 := by kernel_rfl
def ic46 : IC := (xR (xt (.mv (xb false)) 2 .done) (xR (xtM 0 3 (xt (.call 27 [xr 3, (xi 0), (xi 7)]) 4 (xtM 4 2 .done))) .ret))
theorem ic46_ok : Tryz.f46.body.bind (trC Tryz.prog []) = some ic46 := by kernel_rfl
def fr46 : List FR := [(FR.t 2)]
theorem fr46_ok : fres Tryz.prog Tryz.f46.results.toList = some fr46 := by kernel_rfl
def ic20 : IC := (xR (xt (.box 24 (xr 0)) 1 (xt (.mv (xb false)) 2 .done)) (xR (xtF 1 0 3 (xtO 3 4 (xt (.call 27 [xr 4, (xi 1), (xi 2)]) 5 (xtM 5 6 (xG (.fad (xr 1) 1) 7 6 true (xG (.ld (xr 7) 1 false) 8 6 true (xG (.call 27 [xr 8, (xi 1), (xi 4)]) 9 6 true (xt (.pick (xr 6) (xr 9) (xb false)) 10 (xtM 10 11 (xG (.fad (xr 1) 2) 12 11 true (xG (.ld (xr 12) 1 false) 13 11 true (xG (.call 27 [xr 13, (xi 1), (xi 8)]) 14 11 true (xt (.pick (xr 11) (xr 14) (xb false)) 15 (xtM 15 16 (xG (.fad (xr 1) 3) 17 16 true (xG (.ld (xr 17) 1 false) 18 16 true (xG (.call 27 [xr 18, (xi 1), (xi 24)]) 19 16 true (xt (.pick (xr 16) (xr 19) (xb false)) 20 (xtM 20 21 (xG (.fad (xr 1) 4) 22 21 true (xG (.ld (xr 22) 1 false) 23 21 true (xG (.call 27 [xr 23, (xi 1), (xi 5)]) 24 21 true (xt (.pick (xr 21) (xr 24) (xb false)) 25 (xtM 25 2 .done)))))))))))))))))))))))) .ret))
theorem ic20_ok : Tryz.f20.body.bind (trC Tryz.prog []) = some ic20 := by kernel_rfl
def fr20 : List FR := [(FR.t 2)]
theorem fr20_ok : fres Tryz.prog Tryz.f20.results.toList = some fr20 := by kernel_rfl
def ic61 : IC := (xR (xt (.box 24 (xr 0)) 1 (xt (.mv (xb false)) 2 .done)) (xR (xtF 1 0 3 (xtO 3 4 (xt (.call 65 [xr 4, (xi 1), (xi 2)]) 5 (xtM 5 6 (xG (.fad (xr 1) 1) 7 6 true (xG (.ld (xr 7) 1 false) 8 6 true (xG (.call 65 [xr 8, (xi 1), (xi 4)]) 9 6 true (xt (.pick (xr 6) (xr 9) (xb false)) 10 (xtM 10 11 (xG (.fad (xr 1) 2) 12 11 true (xG (.ld (xr 12) 1 false) 13 11 true (xG (.call 65 [xr 13, (xi 1), (xi 8)]) 14 11 true (xt (.pick (xr 11) (xr 14) (xb false)) 15 (xtM 15 16 (xG (.fad (xr 1) 3) 17 16 true (xG (.ld (xr 17) 1 false) 18 16 true (xG (.call 65 [xr 18, (xi 1), (xi 24)]) 19 16 true (xt (.pick (xr 16) (xr 19) (xb false)) 20 (xtM 20 21 (xG (.fad (xr 1) 4) 22 21 true (xG (.ld (xr 22) 1 false) 23 21 true (xG (.call 65 [xr 23, (xi 1), (xi 5)]) 24 21 true (xt (.pick (xr 21) (xr 24) (xb false)) 25 (xtM 25 2 .done)))))))))))))))))))))))) .ret))
theorem ic61_ok : Tryz.f61.body.bind (trC Tryz.prog []) = some ic61 := by kernel_rfl
def fr61 : List FR := [(FR.t 2)]
theorem fr61_ok : fres Tryz.prog Tryz.f61.results.toList = some fr61 := by kernel_rfl
def ic51 : IC := (xR (xt (.mv (xi 0)) 4 .done) (xR (xtM 1 5 (xtM 0 6 (xt (.bin .sub (xr 5) (xr 6)) 7 (xt (.bin .add (xr 7) (xi 8)) 8 (xt (.bin .rem (xr 8) (xi 8)) 9 (xtM 9 4 .done)))))) .ret))
theorem ic51_ok : Tryz.f51.body.bind (trC Tryz.prog []) = some ic51 := by kernel_rfl
def fr51 : List FR := [(FR.t 4)]
theorem fr51_ok : fres Tryz.prog Tryz.f51.results.toList = some fr51 := by kernel_rfl
def ic52 : IC := (xR (xt (.mv (xi 0)) 2 .done) (.seq (xR (xtM 0 3 (xt (.bin .lss (xr 3) (xi 0)) 4 .done)) (.cond (xr 4) (xR (xt (.mv (xi (-1))) 2 .done) .ret) .skip)) (xR (xtM 0 5 (xt (.bin .rem (xr 5) (xi 8)) 6 (xtM 6 2 .done))) .ret)))
theorem ic52_ok : Tryz.f52.body.bind (trC Tryz.prog []) = some ic52 := by kernel_rfl
def fr52 : List FR := [(FR.t 2)]
theorem fr52_ok : fres Tryz.prog Tryz.f52.results.toList = some fr52 := by kernel_rfl
def ic23 : IC := (xR (xt (.mv (xi 0)) 2 .done) (.seq (xR (xtM 0 3 .done) (.cond (xr 3) (xR (xt (.mv (xi 1)) 2 .done) .ret) .skip)) (xR (xt (.mv (xi 0)) 2 .done) .ret)))
theorem ic23_ok : Tryz.f23.body.bind (trC Tryz.prog []) = some ic23 := by kernel_rfl
def fr23 : List FR := [(FR.t 2)]
theorem fr23_ok : fres Tryz.prog Tryz.f23.results.toList = some fr23 := by kernel_rfl
def ic92 : IC := (xR (xt (.mv (xi 0)) 2 .done) (.seq (xR (xtM 0 3 .done) (.cond (xr 3) (xR (xt (.mv (xi 1)) 2 .done) .ret) .skip)) (xR (xt (.mv (xi 0)) 2 .done) .ret)))
theorem ic92_ok : Tryz.f92.body.bind (trC Tryz.prog []) = some ic92 := by kernel_rfl
def fr92 : List FR := [(FR.t 2)]
theorem fr92_ok : fres Tryz.prog Tryz.f92.results.toList = some fr92 := by kernel_rfl
def ic47 : IC := (xR (xt (.mv (xb false)) 6 .done) (xR (xtM 2 8 (xtL 8 9 (xtM 9 7 .done))) (.seq (xR (xtM 0 10 .done) (.block 0 (xR (xt (.bin .eql (xr 10) (xi 0)) 12 (xtM 12 11 .done)) (.cond (xr 11) (xR (xtM 7 13 (xt (.bin .leq (xr 13) (xi 8)) 14 (xtM 14 15 (xG (.mv (xr 1)) 16 15 true (xG (.mv (xr 7)) 17 15 true (xG (.bin .eql (xr 16) (xr 17)) 18 15 true (xt (.pick (xr 15) (xr 18) (xb false)) 19 (xtM 19 6 .done)))))))) .ret) (xR (xt (.bin .eql (xr 10) (xi 1)) 21 (xtM 21 20 .done)) (.cond (xr 20) (xR (xtM 7 22 (xt (.call 27 [xr 22, (xi 1), (xi 8)]) 23 (xtM 23 24 (xG (.mv (xr 1)) 25 24 true (xG (.mv (xr 7)) 26 24 true (xG (.bin .add (xr 26) (xi 1)) 27 24 true (xG (.call 27 [xr 25, xr 27, (xi 24)]) 28 24 true (xt (.pick (xr 24) (xr 28) (xb false)) 29 (xtM 29 6 .done))))))))) .ret) (.seq (xR (xt (.bin .eql (xr 10) (xi 2)) 31 (xtM 31 30 .done)) (.cond (xr 30) .skip (xQ (xt (.bin .eql (xr 10) (xi 3)) 32 (xtM 32 30 .done))))) (.cond (xr 30) (xR (xtM 7 33 (xt (.call 27 [xr 33, (xi 1), (xi 8)]) 34 (xtM 34 35 (xG (.mv (xr 1)) 36 35 true (xG (.bin .eql (xr 36) (xi 0)) 37 35 true (xt (.pick (xr 35) (xr 37) (xb false)) 38 (xtM 38 6 .done))))))) .ret) .skip)))))))) (xR (xt (.mv (xb false)) 6 .done) .ret))))
theorem ic47_ok : Tryz.f47.body.bind (trC Tryz.prog []) = some ic47 := by kernel_rfl
def fr47 : List FR := [(FR.t 6)]
theorem fr47_ok : fres Tryz.prog Tryz.f47.results.toList = some fr47 := by kernel_rfl
def ic89 : IC := (xR (xt (.box 123 (xr 0)) 1 (xt (.mv (xb false)) 2 .done)) (xR (xtF 1 0 3 (xtO 3 4 (xtF 1 1 5 (xtO 5 6 (xtF 1 2 7 (xtO 7 8 (xt (.call 47 [xr 4, xr 6, xr 8]) 9 (xtM 9 2 .done)))))))) .ret))
theorem ic89_ok : Tryz.f89.body.bind (trC Tryz.prog []) = some ic89 := by kernel_rfl
def fr89 : List FR := [(FR.t 2)]
theorem fr89_ok : fres Tryz.prog Tryz.f89.results.toList = some fr89 := by kernel_rfl
def ic127 : IC := (xR (xt (.box 34 (xr 0)) 1 (xt (.mv (xb false)) 2 .done)) (.seq (xR (xtF 1 6 3 (xtO 3 4 (xt (.call 65 [xr 4, (xi 0), (xi 3)]) 5 (xtT 5 6 (xtM 6 7 (xG (.fad (xr 1) 8) 8 7 false (xG (.ld (xr 8) 1 false) 9 7 false (xG (.len (xr 9)) 10 7 false (xG (.bin .eql (xr 10) (xi 0)) 11 7 false (xG (.mv (xr 11)) 12 7 false (xG (.fad (xr 1) 7) 13 12 true (xG (.ld (xr 13) 1 false) 14 12 true (xG (.bin .neq (xr 14) (xi 0)) 15 12 true (xG (.pick (xr 12) (xr 15) (xb false)) 16 7 false (xt (.pick (xr 7) (xb true) (xr 16)) 17 (xtM 17 18 (xG (.fad (xr 1) 8) 19 18 false (xG (.ld (xr 19) 1 false) 20 18 false (xG (.len (xr 20)) 21 18 false (xG (.bin .gtr (xr 21) (xi 8)) 22 18 false (xt (.pick (xr 18) (xb true) (xr 22)) 23 .done))))))))))))))))))))) (.cond (xr 23) (xR (xt (.mv (xb false)) 2 .done) .ret) .skip)) (.seq (xR (xtF 1 6 24 (xtO 24 25 .done)) (.block 0 (xR (xt (.bin .eql (xr 25) (xi 0)) 27 (xtM 27 26 .done)) (.cond (xr 26) (xR (xtF 1 7 28 (xtO 28 29 (xtF 1 8 30 (xtO 30 31 (xtL 31 32 (xt (.bin .eql (xr 29) (xr 32)) 33 (xtM 33 2 .done))))))) .ret) (xR (xt (.bin .eql (xr 25) (xi 1)) 35 (xtM 35 34 .done)) (.cond (xr 34) (xR (xtF 1 7 36 (xtO 36 37 (xtF 1 8 38 (xtO 38 39 (xtL 39 40 (xt (.bin .add (xr 40) (xi 1)) 41 (xt (.call 65 [xr 37, xr 41, (xi 24)]) 42 (xtM 42 43 (xG (.fad (xr 1) 8) 44 43 true (xG (.ld (xr 44) 1 false) 45 43 true (xG (.len (xr 45)) 46 43 true (xG (.bin .gtr (xr 46) (xi 0)) 47 43 true (xt (.pick (xr 43) (xr 47) (xb false)) 48 (xtM 48 2 .done)))))))))))))) .ret) .skip)))))) (xR (xtF 1 7 49 (xtO 49 50 (xt (.bin .eql (xr 50) (xi 0)) 51 (xtM 51 52 (xG (.fad (xr 1) 8) 53 52 true (xG (.ld (xr 53) 1 false) 54 52 true (xG (.len (xr 54)) 55 52 true (xG (.bin .gtr (xr 55) (xi 0)) 56 52 true (xt (.pick (xr 52) (xr 56) (xb false)) 57 (xtM 57 2 .done)))))))))) .ret))))
theorem ic127_ok : Tryz.f127.body.bind (trC Tryz.prog []) = some ic127 := by kernel_rfl
def fr127 : List FR := [(FR.t 2)]
theorem fr127_ok : fres Tryz.prog Tryz.f127.results.toList = some fr127 := by kernel_rfl
def ic158 : IC := (xR (xt (.box 123 (xr 0)) 1 (xt (.mv (xb false)) 2 .done)) (xR (xtF 1 0 3 (xtO 3 4 (xtF 1 1 5 (xtO 5 6 (xtF 1 2 7 (xtO 7 8 (xt (.bld [zI, zI, zI, zB, zB, zI, zI, zI, zS] [(6, (1, (xr 4))), (7, (1, (xr 6))), (8, (1, (xr 8)))]) 9 (xt (.call 127 [xr 9]) 10 (xtM 10 2 .done))))))))) .ret))
theorem ic158_ok : Tryz.f158.body.bind (trC Tryz.prog []) = some ic158 := by kernel_rfl
def fr158 : List FR := [(FR.t 2)]
theorem fr158_ok : fres Tryz.prog Tryz.f158.results.toList = some fr158 := by kernel_rfl
def ic54 : IC := (xR (xt (.box 41 (xr 0)) 1 (xt (.mv (xb false)) 2 .done)) (xR (xtF 1 0 3 (xtO 3 4 (xt (.bin .eql (xr 4) (xi 0)) 5 (xtM 5 6 (xG (.fad (xr 1) 1) 7 6 true (xG (.ld (xr 7) 1 false) 8 6 true (xG (.len (xr 8)) 9 6 true (xG (.bin .eql (xr 9) (xi 0)) 10 6 true (xt (.pick (xr 6) (xr 10) (xb false)) 11 (xtM 11 12 (xG (.fad (xr 1) 0) 13 12 false (xG (.ld (xr 13) 1 false) 14 12 false (xG (.call 27 [xr 14, (xi 2), (xi 24)]) 15 12 false (xG (.mv (xr 15)) 16 12 false (xG (.fad (xr 1) 1) 17 16 true (xG (.ld (xr 17) 1 false) 18 16 true (xG (.len (xr 18)) 19 16 true (xG (.fad (xr 1) 0) 20 16 true (xG (.ld (xr 20) 1 false) 21 16 true (xG (.bin .sub (xr 21) (xi 1)) 22 16 true (xG (.call 27 [xr 19, (xi 1), xr 22]) 23 16 true (xG (.pick (xr 16) (xr 23) (xb false)) 24 12 false (xt (.pick (xr 12) (xb true) (xr 24)) 25 (xtM 25 2 .done)))))))))))))))))))))))) .ret))
theorem ic54_ok : Tryz.f54.body.bind (trC Tryz.prog []) = some ic54 := by kernel_rfl
def fr54 : List FR := [(FR.t 2)]
theorem fr54_ok : fres Tryz.prog Tryz.f54.results.toList = some fr54 := by kernel_rfl
def ic150 : IC := (xR (xt (.box 41 (xr 0)) 1 (xt (.mv (xb false)) 2 .done)) (xR (xtF 1 0 3 (xtO 3 4 (xt (.bin .eql (xr 4) (xi 0)) 5 (xtM 5 6 (xG (.fad (xr 1) 1) 7 6 true (xG (.ld (xr 7) 1 false) 8 6 true (xG (.len (xr 8)) 9 6 true (xG (.bin .eql (xr 9) (xi 0)) 10 6 true (xt (.pick (xr 6) (xr 10) (xb false)) 11 (xtM 11 12 (xG (.fad (xr 1) 0) 13 12 false (xG (.ld (xr 13) 1 false) 14 12 false (xG (.call 65 [xr 14, (xi 2), (xi 24)]) 15 12 false (xG (.mv (xr 15)) 16 12 false (xG (.fad (xr 1) 1) 17 16 true (xG (.ld (xr 17) 1 false) 18 16 true (xG (.len (xr 18)) 19 16 true (xG (.fad (xr 1) 0) 20 16 true (xG (.ld (xr 20) 1 false) 21 16 true (xG (.bin .sub (xr 21) (xi 1)) 22 16 true (xG (.call 65 [xr 19, (xi 1), xr 22]) 23 16 true (xG (.pick (xr 16) (xr 23) (xb false)) 24 12 false (xt (.pick (xr 12) (xb true) (xr 24)) 25 (xtM 25 2 .done)))))))))))))))))))))))) .ret))
theorem ic150_ok : Tryz.f150.body.bind (trC Tryz.prog []) = some ic150 := by kernel_rfl
def fr150 : List FR := [(FR.t 2)]
theorem fr150_ok : fres Tryz.prog Tryz.f150.results.toList = some fr150 := by kernel_rfl
set_option maxHeartbeats 1000000
theorem wrap_in {n : Int} (h0 : -9223372036854775808 ≤ n) (h1 : n ≤ 9223372036854775807) : IntKind.i64.wrap n = n := by rw [IntKind.wrap_i64]; omega
theorem atyB : AppTy Tryz.prog 22 5 1 := AppTy.of (by kernel_rfl)
theorem scloneB (A : Option Addr) (n c : Nat) (cs : List Value) (z : Zc) (hr : RdAt z A 0 cs) (hl : cs.length = n * 1) (h1 : ∀ u ∈ cs, u.oneCell' = true) (hb : n ≤ 1000000000) :
    PSpec Tryz.prog 59 [.slice A n c] z fun v z' => ∃ A' c', v = .slice A' n c' ∧ n ≤ c' ∧ RdAt z' A' 0 cs := by
  (refine pspec_enter Tryz.func59 ic59_ok fr59_ok Tryz.ntmps59 ?_; simp only [seval, go_sem, ic59, fr59])
  refine gO ?_
  refine condI.split (fun h => ?_) (fun h => ?_)
  · refine gO ?_
    (first|refine fN ?_|exact fZ)
    have hn : cs = [] := by
      cases A with
      | none => rcases cs with _ | ⟨u, cs⟩
                · rfl
                · obtain ⟨b, o, e, _⟩ := hr (by simp); cases e
      | some a => simp at h
    subst hn
    have : n = 0 := by simp at hl; omega
    subst this
    exact ⟨_, 0, rfl, Nat.le_refl _, RdAt.nil _ _ _⟩
  · refine gO ?_
    refine appM.toT (appM_empty 99 atyB rfl (.inr ⟨0, 0, rfl⟩) rfl hr hl h1 hb fun A' c' z' hz hc' hr' => ?_)
    simp only [seval, go_sem]
    refine gO ?_
    (first|refine fN ?_|exact fZ)
    exact ⟨A', c', rfl, hc', hr'⟩
theorem sclipB (A : Option Addr) (n c : Nat) (z : Zc) (hc : n ≤ c) (hb : n ≤ 1000000000) : PSpec Tryz.prog 58 [.slice A n c] z fun v z' => v = .slice A n n := by
  (refine pspec_enter Tryz.func58 ic58_ok fr58_ok Tryz.ntmps58 ?_; simp only [seval, go_sem, ic58, fr58])
  refine gO ?_
  refine ⟨by omega, ?_⟩
  refine gO ?_
  (first|refine fN ?_|exact fZ)
theorem cloneB (A : Option Addr) (n c : Nat) (cs : List Value) (z : Zc) (hr : RdAt z A 0 cs) (hl : cs.length = n * 1) (h1 : ∀ u ∈ cs, u.oneCell' = true) (hb : n ≤ 1000000000) :
    PSpec Tryz.prog 36 [.slice A n c] z fun v z' => ∃ A', v = .slice A' n n ∧ RdAt z' A' 0 cs := by
  (refine pspec_enter Tryz.func36 ic36_ok fr36_ok Tryz.ntmps36 ?_; simp only [seval, go_sem, ic36, fr36])
  refine gO ?_
  refine tT ?_; refine callP (scloneB A n c cs z hr hl h1 hb) rfl rfl ?_; rintro v z1 hz1 ⟨A1, c1, rfl, hc1, hr1⟩; refine gO ?_
  refine tT ?_; refine callP (sclipB A1 n c1 z1 hc1 hb) rfl rfl ?_; rintro v z2 hz2 rfl; refine gO ?_
  (first|refine fN ?_|exact fZ)
  exact ⟨A1, rfl, hr1.mono hz2⟩
theorem atyP : AppTy Tryz.prog 44 123 3 := AppTy.of (by kernel_rfl)
theorem scloneP (A : Option Addr) (n c : Nat) (cs : List Value) (z : Zc) (hr : RdAt z A 0 cs) (hl : cs.length = n * 3) (h1 : ∀ u ∈ cs, u.oneCell' = true) (hb : n ≤ 1000000000) :
    PSpec Tryz.prog 155 [.slice A n c] z fun v z' => ∃ A' c', v = .slice A' n c' ∧ n ≤ c' ∧ RdAt z' A' 0 cs := by
  (refine pspec_enter Tryz.func155 ic155_ok fr155_ok Tryz.ntmps155 ?_; simp only [seval, go_sem, ic155, fr155])
  refine gO ?_
  refine condI.split (fun h => ?_) (fun h => ?_)
  · refine gO ?_
    (first|refine fN ?_|exact fZ)
    have hn : cs = [] := by
      cases A with
      | none => rcases cs with _ | ⟨u, cs⟩
                · rfl
                · obtain ⟨b, o, e, _⟩ := hr (by simp); cases e
      | some a => simp at h
    subst hn
    have : n = 0 := by simp at hl; omega
    subst this
    exact ⟨_, 0, rfl, Nat.le_refl _, RdAt.nil _ _ _⟩
  · refine gO ?_
    refine appM.toT (appM_empty 99 atyP rfl (.inr ⟨0, 0, rfl⟩) rfl hr hl h1 hb fun A' c' z' hz hc' hr' => ?_)
    simp only [seval, go_sem]
    refine gO ?_
    (first|refine fN ?_|exact fZ)
    exact ⟨A', c', rfl, hc', hr'⟩
theorem sclipP (A : Option Addr) (n c : Nat) (z : Zc) (hc : n ≤ c) (hb : n ≤ 1000000000) : PSpec Tryz.prog 154 [.slice A n c] z fun v z' => v = .slice A n n := by
  (refine pspec_enter Tryz.func154 ic154_ok fr154_ok Tryz.ntmps154 ?_; simp only [seval, go_sem, ic154, fr154])
  refine gO ?_
  refine ⟨by omega, ?_⟩
  refine gO ?_
  (first|refine fN ?_|exact fZ)
theorem cloneP (A : Option Addr) (n c : Nat) (cs : List Value) (z : Zc) (hr : RdAt z A 0 cs) (hl : cs.length = n * 3) (h1 : ∀ u ∈ cs, u.oneCell' = true) (hb : n ≤ 1000000000) :
    PSpec Tryz.prog 140 [.slice A n c] z fun v z' => ∃ A', v = .slice A' n n ∧ RdAt z' A' 0 cs := by
  (refine pspec_enter Tryz.func140 ic140_ok fr140_ok Tryz.ntmps140 ?_; simp only [seval, go_sem, ic140, fr140])
  refine gO ?_
  refine tT ?_; refine callP (scloneP A n c cs z hr hl h1 hb) rfl rfl ?_; rintro v z1 hz1 ⟨A1, c1, rfl, hc1, hr1⟩; refine gO ?_
  refine tT ?_; refine callP (sclipP A1 n c1 z1 hc1 hb) rfl rfl ?_; rintro v z2 hz2 rfl; refine gO ?_
  (first|refine fN ?_|exact fZ)
  exact ⟨A1, rfl, hr1.mono hz2⟩
theorem sclipM (A : Option Addr) (n c : Nat) (z : Zc) (hc : n ≤ c) (hb : n ≤ 1000000000) : PSpec Tryz.prog 110 [.slice A n c] z fun v z' => v = .slice A n n := by
  (refine pspec_enter Tryz.func110 ic110_ok fr110_ok Tryz.ntmps110 ?_; simp only [seval, go_sem, ic110, fr110])
  refine gO ?_
  refine ⟨by omega, ?_⟩
  refine gO ?_
  (first|refine fN ?_|exact fZ)
theorem cloneBy (l : List Int) (v : Value) (z : Zc) (h : By z l v) (hb : l.length ≤ 1000000000) : PSpec Tryz.prog 36 [v] z fun v' z' => ∃ A', v' = .slice A' l.length l.length ∧ Bys l ∧ RdAt z' A' 0 (bc l) := by
  obtain ⟨A, c, rfl, hc, hB, hr⟩ := h.form
  exact (cloneB A l.length c (bc l) z hr (by simp) (by intro u hu; obtain ⟨x, _, rfl⟩ := List.mem_map.1 hu; rfl) hb).mono fun v' z' hz ⟨A', h1, h2⟩ => ⟨A', h1, hB, h2⟩
theorem in_i (n lo hi : Int) (z : Zc) : PSpec Tryz.prog 27 [.int .i64 n, .int .i64 lo, .int .i64 hi] z fun v z' => v = .bool (inB n lo hi) ∧ z = z' := by
  (refine pspec_enter Tryz.func27 ic27_ok fr27_ok Tryz.ntmps27 ?_; simp only [seval, go_sem, ic27, fr27])
  refine gO ?_
  (with_reducible refine guardR.split (fun hg => ?_) (fun hg => ?_) <;> (try simp only [hg]) <;> simp only [seval, go_sem]) <;> (refine gO ?_; (first|refine fN ?_|exact fZ)) <;> simp only [and_true] <;> simp at hg <;> simp [inB, hg]
  omega
theorem in_s (n lo hi : Int) (z : Zc) : PSpec Tryz.prog 65 [.int .i64 n, .int .i64 lo, .int .i64 hi] z fun v z' => v = .bool (inB n lo hi) ∧ z = z' := by
  (refine pspec_enter Tryz.func65 ic65_ok fr65_ok Tryz.ntmps65 ?_; simp only [seval, go_sem, ic65, fr65])
  refine gO ?_
  (with_reducible refine guardR.split (fun hg => ?_) (fun hg => ?_) <;> (try simp only [hg]) <;> simp only [seval, go_sem]) <;> (refine gO ?_; (first|refine fN ?_|exact fZ)) <;> simp only [and_true] <;> simp at hg <;> simp [inB, hg]
  omega
theorem isnum (n : Int) (z : Zc) : PSpec Tryz.prog 46 [.int .i64 n] z fun v z' => v = .bool (isNum n) ∧ z = z' := by
  (refine pspec_enter Tryz.func46 ic46_ok fr46_ok Tryz.ntmps46 ?_; simp only [seval, go_sem, ic46, fr46])
  refine gO ?_
  refine tT ?_; refine callP (in_i n 0 7 z) rfl rfl ?_; rintro _ _ - ⟨rfl, rfl⟩; refine gO ?_
  (first|refine fN ?_|exact fZ)
  simp [isNum]
theorem cfgok_i (c : Cfg) (z : Zc) : PSpec Tryz.prog 20 [vCfg c] z fun v z' => v = .bool (cfgOk c) ∧ z = z' := by
  (refine pspec_enter Tryz.func20 ic20_ok fr20_ok Tryz.ntmps20 ?_; simp only [seval, go_sem, ic20, fr20])
  refine gO ?_
  refine tT ?_; refine callP (in_i c.mode 1 2 z) rfl rfl ?_; rintro _ _ - ⟨rfl, rfl⟩; refine gO ?_
  (with_reducible refine guardR.split (fun hg => ?_) (fun hg => ?_)); (rotate_left); (focus ((try simp only [hg]); simp only [seval, go_sem]; (refine gO ?_; (first|refine fN ?_|exact fZ); simp_all [cfgOk]))); (try simp only [hg]); refine gO ?_
  refine tT ?_; refine callP (in_i c.win 1 4 z) rfl rfl ?_; rintro _ _ - ⟨rfl, rfl⟩; refine gO ?_
  (with_reducible refine guardR.split (fun hg => ?_) (fun hg => ?_)); (rotate_left); (focus ((try simp only [hg]); simp only [seval, go_sem]; (refine gO ?_; (first|refine fN ?_|exact fZ); simp_all [cfgOk]))); (try simp only [hg]); refine gO ?_
  refine tT ?_; refine callP (in_i c.mps 1 8 z) rfl rfl ?_; rintro _ _ - ⟨rfl, rfl⟩; refine gO ?_
  (with_reducible refine guardR.split (fun hg => ?_) (fun hg => ?_)); (rotate_left); (focus ((try simp only [hg]); simp only [seval, go_sem]; (refine gO ?_; (first|refine fN ?_|exact fZ); simp_all [cfgOk]))); (try simp only [hg]); refine gO ?_
  refine tT ?_; refine callP (in_i c.mtu 1 24 z) rfl rfl ?_; rintro _ _ - ⟨rfl, rfl⟩; refine gO ?_
  (with_reducible refine guardR.split (fun hg => ?_) (fun hg => ?_)); (rotate_left); (focus ((try simp only [hg]); simp only [seval, go_sem]; (refine gO ?_; (first|refine fN ?_|exact fZ); simp_all [cfgOk]))); (try simp only [hg]); refine gO ?_
  refine tT ?_; refine callP (in_i c.tri 1 5 z) rfl rfl ?_; rintro _ _ - ⟨rfl, rfl⟩; refine gO ?_
  (refine gO ?_; (first|refine fN ?_|exact fZ); simp_all [cfgOk])
theorem cfgok_s (c : Cfg) (z : Zc) : PSpec Tryz.prog 61 [vCfg c] z fun v z' => v = .bool (cfgOk c) ∧ z = z' := by
  (refine pspec_enter Tryz.func61 ic61_ok fr61_ok Tryz.ntmps61 ?_; simp only [seval, go_sem, ic61, fr61])
  refine gO ?_
  refine tT ?_; refine callP (in_s c.mode 1 2 z) rfl rfl ?_; rintro _ _ - ⟨rfl, rfl⟩; refine gO ?_
  (with_reducible refine guardR.split (fun hg => ?_) (fun hg => ?_)); (rotate_left); (focus ((try simp only [hg]); simp only [seval, go_sem]; (refine gO ?_; (first|refine fN ?_|exact fZ); simp_all [cfgOk]))); (try simp only [hg]); refine gO ?_
  refine tT ?_; refine callP (in_s c.win 1 4 z) rfl rfl ?_; rintro _ _ - ⟨rfl, rfl⟩; refine gO ?_
  (with_reducible refine guardR.split (fun hg => ?_) (fun hg => ?_)); (rotate_left); (focus ((try simp only [hg]); simp only [seval, go_sem]; (refine gO ?_; (first|refine fN ?_|exact fZ); simp_all [cfgOk]))); (try simp only [hg]); refine gO ?_
  refine tT ?_; refine callP (in_s c.mps 1 8 z) rfl rfl ?_; rintro _ _ - ⟨rfl, rfl⟩; refine gO ?_
  (with_reducible refine guardR.split (fun hg => ?_) (fun hg => ?_)); (rotate_left); (focus ((try simp only [hg]); simp only [seval, go_sem]; (refine gO ?_; (first|refine fN ?_|exact fZ); simp_all [cfgOk]))); (try simp only [hg]); refine gO ?_
  refine tT ?_; refine callP (in_s c.mtu 1 24 z) rfl rfl ?_; rintro _ _ - ⟨rfl, rfl⟩; refine gO ?_
  (with_reducible refine guardR.split (fun hg => ?_) (fun hg => ?_)); (rotate_left); (focus ((try simp only [hg]); simp only [seval, go_sem]; (refine gO ?_; (first|refine fN ?_|exact fZ); simp_all [cfgOk]))); (try simp only [hg]); refine gO ?_
  refine tT ?_; refine callP (in_s c.tri 1 5 z) rfl rfl ?_; rintro _ _ - ⟨rfl, rfl⟩; refine gO ?_
  (refine gO ?_; (first|refine fN ?_|exact fZ); simp_all [cfgOk])
theorem numof_i (n : Int) (z : Zc) (h : 0 ≤ n ∧ n ≤ 1000000) : PSpec Tryz.prog 52 [.int .i64 n] z fun v z' => v = .int .i64 (numOf n) ∧ z = z' := by
  (refine pspec_enter Tryz.func52 ic52_ok fr52_ok Tryz.ntmps52 ?_; simp only [seval, go_sem, ic52, fr52])
  refine gO ?_
  (with_reducible refine condI.split (fun hg => ?_) (fun hg => ?_) <;> (try simp only [hg]) <;> (try simp only [seval, go_sem]))
  · simp at hg; omega
  · refine gO ?_
    (first|refine fN ?_|exact fZ)
    rw [Int.tmod_eq_emod_of_nonneg (by omega)]
    simp [numOf]; omega
theorem far_i (a b : Int) (z : Zc) (h : 0 ≤ a ∧ a ≤ 1000000) (h : 0 ≤ b ∧ b ≤ 1000000) (h : a - 8 ≤ b) : PSpec Tryz.prog 51 [.int .i64 a, .int .i64 b] z fun v z' => v = .int .i64 (far a b) ∧ z = z' := by
  (refine pspec_enter Tryz.func51 ic51_ok fr51_ok Tryz.ntmps51 ?_; simp only [seval, go_sem, ic51, fr51])
  refine gO ?_
  (first|refine fN ?_|exact fZ)
  rw [wrap_in (n := b - a) (by omega) (by omega)]
  rw [wrap_in (by omega) (by omega)]
  rw [Int.tmod_eq_emod_of_nonneg (by omega)]
  simp [far]
theorem pieceok_i (seg len : Int) (A : Option Addr) (n c : Nat) (z : Zc) (h : n ≤ 1000000000) : PSpec Tryz.prog 47 [.int .i64 seg, .int .i64 len, .slice A n c] z fun v z' => v = .bool (pieceOk seg len n) ∧ z = z' := by
  (refine pspec_enter Tryz.func47 ic47_ok fr47_ok Tryz.ntmps47 ?_; simp only [seval, go_sem, ic47, fr47])
  (try simp only [seval, go_sem]); repeat' (first | (with_reducible refine vsI.id ?_; (try simp only [seval, go_sem])) | (with_reducible refine vcI_cond ?_; (try simp only [seval, go_sem])) | (with_reducible refine guardR.split (fun hg => ?_) (fun hg => ?_) <;> (try simp only [hg]) <;> simp only [seval, go_sem]) | (with_reducible refine condI.split (fun hg => ?_) (fun hg => ?_) <;> (try simp only [hg]) <;> (try simp only [seval, go_sem])) | (with_reducible refine callM.toT ?_) | (refine callP (in_i _ _ _ _) rfl rfl ?_; rintro _ _ - ⟨rfl, rfl⟩; (try simp only [seval, go_sem])))
  all_goals (try ((first|refine fN ?_|exact fZ); (try simp only [inB_iff, inB_no, isNum_iff, beq_iff_eq, decide_eq_true_eq, decide_eq_false_iff_not, beq_eq_false_iff_ne, bne_iff_ne, bne_eq_false_iff_eq, Bool.not_eq_true', Bool.not_eq_false', and_true] at *); (try simp (disch := omega) only [wrap_in, Int.tmod_eq_emod_of_nonneg] at *); (try simp only [and_true]); first | rfl | (simp_all [pieceOk]; done) | (refine congrArg Value.bool (Bool.eq_iff_iff.2 ?_); simp [*, pieceOk, inB_iff]; done) | (refine congrArg Value.bool (Bool.eq_iff_iff.2 ?_); simp [*, pieceOk, inB_iff]; omega) | (simp_all [pieceOk]; omega)))
theorem partok_i (p : Part) (A : Option Addr) (n c : Nat) (z : Zc) (h : p.data.length ≤ 1000000000) (hn : p.data.length = n) : PSpec Tryz.prog 89 [vPart p (.slice A n c)] z fun v z' => v = .bool (partOk p) ∧ z = z' := by
  (refine pspec_enter Tryz.func89 ic89_ok fr89_ok Tryz.ntmps89 ?_; simp only [seval, go_sem, ic89, fr89])
  (try simp only [seval, go_sem]); repeat' (first | (with_reducible refine vsI.id ?_; (try simp only [seval, go_sem])) | (with_reducible refine vcI_cond ?_; (try simp only [seval, go_sem])) | (with_reducible refine guardR.split (fun hg => ?_) (fun hg => ?_) <;> (try simp only [hg]) <;> simp only [seval, go_sem]) | (with_reducible refine condI.split (fun hg => ?_) (fun hg => ?_) <;> (try simp only [hg]) <;> (try simp only [seval, go_sem])) | (with_reducible refine callM.toT ?_) | (refine callP (pieceok_i _ _ _ _ _ _ (by omega)) rfl rfl ?_; rintro _ _ - ⟨rfl, rfl⟩; (try simp only [seval, go_sem])))
  all_goals (try ((first|refine fN ?_|exact fZ); (try simp only [inB_iff, inB_no, isNum_iff, beq_iff_eq, decide_eq_true_eq, decide_eq_false_iff_not, beq_eq_false_iff_ne, bne_iff_ne, bne_eq_false_iff_eq, Bool.not_eq_true', Bool.not_eq_false', and_true] at *); (try simp (disch := omega) only [wrap_in, Int.tmod_eq_emod_of_nonneg] at *); (try simp only [and_true]); first | rfl | (simp_all [partOk]; done) | (refine congrArg Value.bool (Bool.eq_iff_iff.2 ?_); simp [*, partOk, inB_iff]; done) | (refine congrArg Value.bool (Bool.eq_iff_iff.2 ?_); simp [*, partOk, inB_iff]; omega) | (simp_all [partOk]; omega)))
theorem joinok_i (j : Join) (A : Option Addr) (c : Nat) (z : Zc) (h : j.got.length ≤ 1000000000) (hj : -1000000000 ≤ j.len) : PSpec Tryz.prog 54 [vJoin j (.slice A j.got.length c)] z fun v z' => v = .bool (joinOk j) ∧ z = z' := by
  (refine pspec_enter Tryz.func54 ic54_ok fr54_ok Tryz.ntmps54 ?_; simp only [seval, go_sem, ic54, fr54])
  (try simp only [seval, go_sem]); repeat' (first | (with_reducible refine vsI.id ?_; (try simp only [seval, go_sem])) | (with_reducible refine vcI_cond ?_; (try simp only [seval, go_sem])) | (with_reducible refine guardR.split (fun hg => ?_) (fun hg => ?_) <;> (try simp only [hg]) <;> simp only [seval, go_sem]) | (with_reducible refine condI.split (fun hg => ?_) (fun hg => ?_) <;> (try simp only [hg]) <;> (try simp only [seval, go_sem])) | (with_reducible refine callM.toT ?_) | (refine callP (in_i _ _ _ _) rfl rfl ?_; rintro _ _ - ⟨rfl, rfl⟩; (try simp only [seval, go_sem])))
  all_goals (first | ((first|refine fN ?_|exact fZ); (try simp only [inB_iff, inB_no, isNum_iff, beq_iff_eq, decide_eq_true_eq, decide_eq_false_iff_not, beq_eq_false_iff_ne, bne_iff_ne, bne_eq_false_iff_eq, Bool.not_eq_true', Bool.not_eq_false', and_true] at *); (try simp (disch := omega) only [wrap_in, Int.tmod_eq_emod_of_nonneg] at *); (try simp only [and_true]); first | rfl | (simp_all [joinOk]; done) | (refine congrArg Value.bool (Bool.eq_iff_iff.2 ?_); simp [*, joinOk, inB_iff]; done) | (refine congrArg Value.bool (Bool.eq_iff_iff.2 ?_); simp [*, joinOk, inB_iff]; omega) | (simp_all [joinOk]; omega)) | ((first|refine fN ?_|exact fZ); (try simp only [inB_iff, inB_no, isNum_iff, beq_iff_eq, decide_eq_true_eq, decide_eq_false_iff_not, beq_eq_false_iff_ne, bne_iff_ne, bne_eq_false_iff_eq, Bool.not_eq_true', Bool.not_eq_false', and_true] at *); (try simp (disch := omega) only [wrap_in, Int.tmod_eq_emod_of_nonneg] at *); (try simp only [and_true]); (refine congrArg Value.bool (Bool.eq_iff_iff.2 ?_)); (simp only [joinOk_iff, JoinI, ← List.length_eq_zero_iff, inB_iff, inB_no, isNum_iff, beq_iff_eq, decide_eq_true_eq, Bool.and_eq_true, Bool.or_eq_true, Bool.false_eq_true, false_iff, true_iff, iff_true, iff_false, Bool.not_eq_true']); omega))
theorem joinok_s (j : Join) (A : Option Addr) (c : Nat) (z : Zc) (h : j.got.length ≤ 1000000000) (hj : -1000000000 ≤ j.len) : PSpec Tryz.prog 150 [vJoin j (.slice A j.got.length c)] z fun v z' => v = .bool (joinOk j) ∧ z = z' := by
  (refine pspec_enter Tryz.func150 ic150_ok fr150_ok Tryz.ntmps150 ?_; simp only [seval, go_sem, ic150, fr150])
  (try simp only [seval, go_sem]); repeat' (first | (with_reducible refine vsI.id ?_; (try simp only [seval, go_sem])) | (with_reducible refine vcI_cond ?_; (try simp only [seval, go_sem])) | (with_reducible refine guardR.split (fun hg => ?_) (fun hg => ?_) <;> (try simp only [hg]) <;> simp only [seval, go_sem]) | (with_reducible refine condI.split (fun hg => ?_) (fun hg => ?_) <;> (try simp only [hg]) <;> (try simp only [seval, go_sem])) | (with_reducible refine callM.toT ?_) | (refine callP (in_s _ _ _ _) rfl rfl ?_; rintro _ _ - ⟨rfl, rfl⟩; (try simp only [seval, go_sem])))
  all_goals (first | ((first|refine fN ?_|exact fZ); (try simp only [inB_iff, inB_no, isNum_iff, beq_iff_eq, decide_eq_true_eq, decide_eq_false_iff_not, beq_eq_false_iff_ne, bne_iff_ne, bne_eq_false_iff_eq, Bool.not_eq_true', Bool.not_eq_false', and_true] at *); (try simp (disch := omega) only [wrap_in, Int.tmod_eq_emod_of_nonneg] at *); (try simp only [and_true]); first | rfl | (simp_all [joinOk]; done) | (refine congrArg Value.bool (Bool.eq_iff_iff.2 ?_); simp [*, joinOk, inB_iff]; done) | (refine congrArg Value.bool (Bool.eq_iff_iff.2 ?_); simp [*, joinOk, inB_iff]; omega) | (simp_all [joinOk]; omega)) | ((first|refine fN ?_|exact fZ); (try simp only [inB_iff, inB_no, isNum_iff, beq_iff_eq, decide_eq_true_eq, decide_eq_false_iff_not, beq_eq_false_iff_ne, bne_iff_ne, bne_eq_false_iff_eq, Bool.not_eq_true', Bool.not_eq_false', and_true] at *); (try simp (disch := omega) only [wrap_in, Int.tmod_eq_emod_of_nonneg] at *); (try simp only [and_true]); (refine congrArg Value.bool (Bool.eq_iff_iff.2 ?_)); (simp only [joinOk_iff, JoinI, ← List.length_eq_zero_iff, inB_iff, inB_no, isNum_iff, beq_iff_eq, decide_eq_true_eq, Bool.and_eq_true, Bool.or_eq_true, Bool.false_eq_true, false_iff, true_iff, iff_true, iff_false, Bool.not_eq_true']); omega))
theorem truth_i (b : Bool) (z : Zc) : PSpec Tryz.prog 23 [.bool b] z fun v z' => v = .int .i64 (bit b) ∧ z = z' := by
  (refine pspec_enter Tryz.func23 ic23_ok fr23_ok Tryz.ntmps23 ?_; simp only [seval, go_sem, ic23, fr23])
  (try simp only [seval, go_sem]); repeat' (first | (with_reducible refine vsI.id ?_; (try simp only [seval, go_sem])) | (with_reducible refine vcI_cond ?_; (try simp only [seval, go_sem])) | (with_reducible refine guardR.split (fun hg => ?_) (fun hg => ?_) <;> (try simp only [hg]) <;> simp only [seval, go_sem]) | (with_reducible refine condI.split (fun hg => ?_) (fun hg => ?_) <;> (try simp only [hg]) <;> (try simp only [seval, go_sem])) | (with_reducible refine callM.toT ?_))
  all_goals ((first|refine fN ?_|exact fZ); (try simp only [inB_iff, inB_no, isNum_iff, beq_iff_eq, decide_eq_true_eq, decide_eq_false_iff_not, beq_eq_false_iff_ne, bne_iff_ne, bne_eq_false_iff_eq, Bool.not_eq_true', Bool.not_eq_false', and_true] at *); (try simp (disch := omega) only [wrap_in, Int.tmod_eq_emod_of_nonneg] at *); (try simp only [and_true]); first | rfl | (simp_all [bit]; done) | (refine congrArg Value.bool (Bool.eq_iff_iff.2 ?_); simp [*, bit, inB_iff]; done) | (refine congrArg Value.bool (Bool.eq_iff_iff.2 ?_); simp [*, bit, inB_iff]; omega) | (simp_all [bit]; omega))
theorem bit_s (b : Bool) (z : Zc) : PSpec Tryz.prog 92 [.bool b] z fun v z' => v = .int .i64 (bit b) ∧ z = z' := by
  (refine pspec_enter Tryz.func92 ic92_ok fr92_ok Tryz.ntmps92 ?_; simp only [seval, go_sem, ic92, fr92])
  (try simp only [seval, go_sem]); repeat' (first | (with_reducible refine vsI.id ?_; (try simp only [seval, go_sem])) | (with_reducible refine vcI_cond ?_; (try simp only [seval, go_sem])) | (with_reducible refine guardR.split (fun hg => ?_) (fun hg => ?_) <;> (try simp only [hg]) <;> simp only [seval, go_sem]) | (with_reducible refine condI.split (fun hg => ?_) (fun hg => ?_) <;> (try simp only [hg]) <;> (try simp only [seval, go_sem])) | (with_reducible refine callM.toT ?_))
  all_goals ((first|refine fN ?_|exact fZ); (try simp only [inB_iff, inB_no, isNum_iff, beq_iff_eq, decide_eq_true_eq, decide_eq_false_iff_not, beq_eq_false_iff_ne, bne_iff_ne, bne_eq_false_iff_eq, Bool.not_eq_true', Bool.not_eq_false', and_true] at *); (try simp (disch := omega) only [wrap_in, Int.tmod_eq_emod_of_nonneg] at *); (try simp only [and_true]); first | rfl | (simp_all [bit]; done) | (refine congrArg Value.bool (Bool.eq_iff_iff.2 ?_); simp [*, bit, inB_iff]; done) | (refine congrArg Value.bool (Bool.eq_iff_iff.2 ?_); simp [*, bit, inB_iff]; omega) | (simp_all [bit]; omega))
theorem l2seg_s (f : Frm) (A : Option Addr) (c : Nat) (z : Zc) (h : f.data.length ≤ 1000000000) : PSpec Tryz.prog 127 [vFrm f (.slice A f.data.length c)] z fun v z' => v = .bool (pieceOk f.seg f.len f.data.length) ∧ z = z' := by
  (refine pspec_enter Tryz.func127 ic127_ok fr127_ok Tryz.ntmps127 ?_; simp only [seval, go_sem, ic127, fr127])
  (try simp only [seval, go_sem]); repeat' (first | (with_reducible refine vsI.id ?_; (try simp only [seval, go_sem])) | (with_reducible refine vcI_cond ?_; (try simp only [seval, go_sem])) | (with_reducible refine guardR.split (fun hg => ?_) (fun hg => ?_) <;> (try simp only [hg]) <;> simp only [seval, go_sem]) | (with_reducible refine condI.split (fun hg => ?_) (fun hg => ?_) <;> (try simp only [hg]) <;> (try simp only [seval, go_sem])) | (with_reducible refine callM.toT ?_) | (refine callP (in_s _ _ _ _) rfl rfl ?_; rintro _ _ - ⟨rfl, rfl⟩; (try simp only [seval, go_sem])))
  all_goals (first | ((first|refine fN ?_|exact fZ); (try simp only [inB_iff, inB_no, isNum_iff, beq_iff_eq, decide_eq_true_eq, decide_eq_false_iff_not, beq_eq_false_iff_ne, bne_iff_ne, bne_eq_false_iff_eq, Bool.not_eq_true', Bool.not_eq_false', and_true] at *); (try simp (disch := omega) only [wrap_in, Int.tmod_eq_emod_of_nonneg] at *); (try simp only [and_true]); (refine congrArg Value.bool (Bool.eq_iff_iff.2 ?_)); (simp only [pieceOk_iff, inB_iff, inB_no, isNum_iff, beq_iff_eq, decide_eq_true_eq, Bool.and_eq_true, Bool.or_eq_true, Bool.false_eq_true, false_iff, true_iff, iff_true, iff_false, Bool.not_eq_true']); omega) | ((first|refine fN ?_|exact fZ); (try simp only [inB_iff, inB_no, isNum_iff, beq_iff_eq, decide_eq_true_eq, decide_eq_false_iff_not, beq_eq_false_iff_ne, bne_iff_ne, bne_eq_false_iff_eq, Bool.not_eq_true', Bool.not_eq_false', and_true] at *); (try simp (disch := omega) only [wrap_in, Int.tmod_eq_emod_of_nonneg] at *); (try simp only [and_true]); first | rfl | (simp_all [pieceOk, inB]; done) | (refine congrArg Value.bool (Bool.eq_iff_iff.2 ?_); simp [*, pieceOk, inB, inB_iff]; done) | (refine congrArg Value.bool (Bool.eq_iff_iff.2 ?_); simp [*, pieceOk, inB, inB_iff]; omega) | (simp_all [pieceOk, inB]; omega)))
theorem partok_s (p : Part) (A : Option Addr) (c : Nat) (z : Zc) (h : p.data.length ≤ 1000000000) : PSpec Tryz.prog 158 [vPart p (.slice A p.data.length c)] z fun v z' => v = .bool (partOk p) ∧ z = z' := by
  (refine pspec_enter Tryz.func158 ic158_ok fr158_ok Tryz.ntmps158 ?_; simp only [seval, go_sem, ic158, fr158])
  (try simp only [seval, go_sem]); repeat' (first | (with_reducible refine vsI.id ?_; (try simp only [seval, go_sem])) | (with_reducible refine vcI_cond ?_; (try simp only [seval, go_sem])) | (with_reducible refine guardR.split (fun hg => ?_) (fun hg => ?_) <;> (try simp only [hg]) <;> simp only [seval, go_sem]) | (with_reducible refine condI.split (fun hg => ?_) (fun hg => ?_) <;> (try simp only [hg]) <;> (try simp only [seval, go_sem])) | (with_reducible refine callM.toT ?_) | (refine callP (l2seg_s ⟨0, 0, 0, false, false, 0, p.seg, p.len, p.data⟩ _ _ _ (by omega)) rfl rfl ?_; rintro _ _ - ⟨rfl, rfl⟩; (try simp only [seval, go_sem])))
  all_goals (try ((first|refine fN ?_|exact fZ); (try simp only [inB_iff, inB_no, isNum_iff, beq_iff_eq, decide_eq_true_eq, decide_eq_false_iff_not, beq_eq_false_iff_ne, bne_iff_ne, bne_eq_false_iff_eq, Bool.not_eq_true', Bool.not_eq_false', and_true] at *); (try simp (disch := omega) only [wrap_in, Int.tmod_eq_emod_of_nonneg] at *); (try simp only [and_true]); first | rfl | (simp_all [partOk]; done) | (refine congrArg Value.bool (Bool.eq_iff_iff.2 ?_); simp [*, partOk, inB_iff]; done) | (refine congrArg Value.bool (Bool.eq_iff_iff.2 ?_); simp [*, partOk, inB_iff]; omega) | (simp_all [partOk]; omega)))
set_option maxHeartbeats 4000000
def ic126 : IC := (xR (xt (.mv (xi 0)) 4 .done) (.seq (xR (xtM 0 6 (xtL 6 7 (xt (.mv (xi 0)) 8 .done))) (.block 0 (.loop (xR (xt (.bin .lss (xr 8) (xr 7)) 9 .done) (.seq (.cond (xr 9) .skip (.exit 0)) (.seq (.block 1 (xR (xtM 8 10 (xtM 10 5 .done)) (xR (xtM 1 11 (xtM 0 12 (xtM 5 13 (xtI 12 13 3 14 (xtA 14 3 15 (xt (.oth (Op.call (Call.mk (Callee.value (xr 11)) #[xr 15] #[123]))) 16 .done)))))) (.cond (xr 16) (xR (xtM 5 17 (xtM 17 4 .done)) .ret) .skip)))) (xQ (xt (.bin .add (xr 8) (xi 1)) 18 (xtM 18 8 .done))))))))) (xR (xt (.mv (xi (-1))) 4 .done) .ret)))
theorem ic126_ok : Tryz.f126.body.bind (trC Tryz.prog []) = some ic126 := by kernel_rfl
def fr126 : List FR := [(FR.t 4)]
theorem fr126_ok : fres Tryz.prog Tryz.f126.results.toList = some fr126 := by kernel_rfl
def ic87 : IC := (xR (xt (.mv (xb false)) 4 .done) (xR (xtM 0 5 (xtM 1 6 (xt (.call 126 [xr 5, xr 6]) 7 (xt (.bin .geq (xr 7) (xi 0)) 8 (xtM 8 4 .done))))) .ret))
theorem ic87_ok : Tryz.f87.body.bind (trC Tryz.prog []) = some ic87 := by kernel_rfl
def fr87 : List FR := [(FR.t 4)]
theorem fr87_ok : fres Tryz.prog Tryz.f87.results.toList = some fr87 := by kernel_rfl
def ic53 : IC := (xR (xt (.box 24 (xr 0)) 2 (xt (.mv (xb false)) 4 .done)) (xR (xtM 1 5 (xt (.oth (Op.makeFunc (Fn.func 88) #[] #[xr 2])) 6 (xt (.call 87 [xr 5, xr 6]) 7 (xtT 7 8 (xtM 8 4 .done))))) .ret))
theorem ic53_ok : Tryz.f53.body.bind (trC Tryz.prog []) = some ic53 := by kernel_rfl
def fr53 : List FR := [(FR.t 4)]
theorem fr53_ok : fres Tryz.prog Tryz.f53.results.toList = some fr53 := by kernel_rfl
def ic88 : IC := (xR (xt (.box 123 (xr 0)) 2 (xt (.mv (xb false)) 3 .done)) (xR (xtA 2 3 4 (xt (.call 89 [xr 4]) 5 (xtT 5 6 (xtM 6 7 (xG (.fad (xr 2) 2) 8 7 false (xG (.ld (xr 8) 1 false) 9 7 false (xG (.len (xr 9)) 10 7 false (xG (.fad (xr 1) 2) 11 7 false (xG (.ld (xr 11) 1 false) 12 7 false (xG (.bin .gtr (xr 10) (xr 12)) 13 7 false (xt (.pick (xr 7) (xb true) (xr 13)) 14 (xtM 14 3 .done)))))))))))) .ret))
theorem ic88_ok : Tryz.f88.body.bind (trC Tryz.prog []) = some ic88 := by kernel_rfl
def fr88 : List FR := [(FR.t 3)]
theorem fr88_ok : fres Tryz.prog Tryz.f88.results.toList = some fr88 := by kernel_rfl
def ic57 : IC := (xR (xt (.mv (xi 0)) 4 .done) (.seq (xR (xtM 0 6 (xtL 6 7 (xt (.mv (xi 0)) 8 .done))) (.block 0 (.loop (xR (xt (.bin .lss (xr 8) (xr 7)) 9 .done) (.seq (.cond (xr 9) .skip (.exit 0)) (.seq (.block 1 (xR (xtM 8 10 (xtM 10 5 .done)) (xR (xtM 1 11 (xtM 0 12 (xtM 5 13 (xtI 12 13 2 14 (xtA 14 2 15 (xt (.oth (Op.call (Call.mk (Callee.value (xr 11)) #[xr 15] #[59]))) 16 .done)))))) (.cond (xr 16) (xR (xtM 5 17 (xtM 17 4 .done)) .ret) .skip)))) (xQ (xt (.bin .add (xr 8) (xi 1)) 18 (xtM 18 8 .done))))))))) (xR (xt (.mv (xi (-1))) 4 .done) .ret)))
theorem ic57_ok : Tryz.f57.body.bind (trC Tryz.prog []) = some ic57 := by kernel_rfl
def fr57 : List FR := [(FR.t 4)]
theorem fr57_ok : fres Tryz.prog Tryz.f57.results.toList = some fr57 := by kernel_rfl
def ic33 : IC := (xR (xt (.mv (xb false)) 4 .done) (xR (xtM 0 5 (xtM 1 6 (xt (.call 57 [xr 5, xr 6]) 7 (xt (.bin .geq (xr 7) (xi 0)) 8 (xtM 8 4 .done))))) .ret))
theorem ic33_ok : Tryz.f33.body.bind (trC Tryz.prog []) = some ic33 := by kernel_rfl
def fr33 : List FR := [(FR.t 4)]
theorem fr33_ok : fres Tryz.prog Tryz.f33.results.toList = some fr33 := by kernel_rfl
def ic90 : IC := (xR (xt (.mv (xi 0)) 4 .done) (.seq (xR (xtM 0 6 (xtL 6 7 (xt (.mv (xi 0)) 8 .done))) (.block 0 (.loop (xR (xt (.bin .lss (xr 8) (xr 7)) 9 .done) (.seq (.cond (xr 9) .skip (.exit 0)) (.seq (.block 1 (xR (xtM 8 10 (xtM 10 5 .done)) (xR (xtM 1 11 (xtM 0 12 (xtM 5 13 (xtI 12 13 1 14 (xtO 14 15 (xt (.oth (Op.call (Call.mk (Callee.value (xr 11)) #[xr 15] #[22]))) 16 .done)))))) (.cond (xr 16) (xR (xtM 5 17 (xtM 17 4 .done)) .ret) .skip)))) (xQ (xt (.bin .add (xr 8) (xi 1)) 18 (xtM 18 8 .done))))))))) (xR (xt (.mv (xi (-1))) 4 .done) .ret)))
theorem ic90_ok : Tryz.f90.body.bind (trC Tryz.prog []) = some ic90 := by kernel_rfl
def fr90 : List FR := [(FR.t 4)]
theorem fr90_ok : fres Tryz.prog Tryz.f90.results.toList = some fr90 := by kernel_rfl
def ic55 : IC := (xR (xt (.mv (xb false)) 4 .done) (xR (xtM 0 5 (xtM 1 6 (xt (.call 90 [xr 5, xr 6]) 7 (xt (.bin .geq (xr 7) (xi 0)) 8 (xtM 8 4 .done))))) .ret))
theorem ic55_ok : Tryz.f55.body.bind (trC Tryz.prog []) = some ic55 := by kernel_rfl
def fr55 : List FR := [(FR.t 4)]
theorem fr55_ok : fres Tryz.prog Tryz.f55.results.toList = some fr55 := by kernel_rfl
def ic32 : IC := (xR (xt (.mv (xb false)) 2 .done) (xR (xtM 0 3 (xtL 3 4 (xt (.bin .leq (xr 4) (xi 60)) 5 (xtM 5 6 (xG (.mv (xr 0)) 7 6 true (xG (.call 55 [xr 7, (.func 56)]) 8 6 true (xG (.not (xr 8)) 9 6 true (xt (.pick (xr 6) (xr 9) (xb false)) 10 (xtM 10 2 .done))))))))) .ret))
theorem ic32_ok : Tryz.f32.body.bind (trC Tryz.prog []) = some ic32 := by kernel_rfl
def fr32 : List FR := [(FR.t 2)]
theorem fr32_ok : fres Tryz.prog Tryz.f32.results.toList = some fr32 := by kernel_rfl
def ic56 : IC := (xR (xt (.mv (xb false)) 2 .done) (xR (xtM 0 3 (xtL 3 4 (xt (.bin .gtr (xr 4) (xi 24)) 5 (xtM 5 2 .done)))) .ret))
theorem ic56_ok : Tryz.f56.body.bind (trC Tryz.prog []) = some ic56 := by kernel_rfl
def fr56 : List FR := [(FR.t 2)]
theorem fr56_ok : fres Tryz.prog Tryz.f56.results.toList = some fr56 := by kernel_rfl
set_option maxHeartbeats 200000
theorem any_take {α : Type} {p : α → Bool} {l : List α} {i : Nat} {x : α} (hx : l[i]? = some x) (ht : (l.take i).any p = false) (hp : p x = false) : (l.take (i + 1)).any p = false := by
  rw [List.take_add_one, List.any_append, ht, hx]; simp [hp]
theorem any_of {α : Type} {p : α → Bool} {l : List α} {i : Nat} {x : α} (hx : l[i]? = some x) (hp : p x = true) : l.any p = true := List.any_eq_true.2 ⟨x, List.mem_of_getElem? hx, hp⟩
def datP (p : Part) : List Int := p.data
def datM (p : Msg) : List Int := p.bytes
def datS (p : List Int) : List Int := p
abbrev vMsg (m : Msg) (v : Value) : Value := .agg #[.bool m.bent, v]
theorem indexP {p : Part → Bool} {fn : FuncId} {caps : List Value} {l : List Part} {A : Option Addr} {c : Nat} {cs : List Value} {z : Zc} (he : Els pRep z l cs) (hr : RdAt z A 0 cs) (hl : l.length ≤ 1000000000) (hok : callOk Tryz.prog fn = true)
    (hf : ∀ x ∈ l, ∀ v, By z (datP x) v → PSpec Tryz.prog fn ([vPart x v] ++ caps) z fun u z' => u = .bool (p x) ∧ z = z') :
    PSpec Tryz.prog 126 [.slice A l.length c, .func (.func fn) #[] caps.toArray] z fun v z' => (∃ i : Int, v = .int .i64 i ∧ decide (0 ≤ i) = l.any p) ∧ z = z' := by
  (refine pspec_enter Tryz.func126 ic126_ok fr126_ok Tryz.ntmps126 ?_; simp only [seval, go_sem, ic126, fr126])
  refine gO ?_
  refine loop_upd (ι := Nat) (n := 0) (fun i => i ≤ l.length ∧ (l.take i).any p = false) (fun i => [(8, .c (.v (.int .i64 i)))]) (fun _ => []) (fun _ => z) (fun i => l.length - i) 0 (by simp) (by (simp only [wrI, wrR, anyL, st, List.append_nil, List.nil_append, List.cons_append]); exact rfl) ?_ ?_
  · exact lE
  · rintro i ⟨hi, ht⟩
    refine gO ?_
    (with_reducible refine condI.split (fun hg => ?_) (fun hg => ?_) <;> (try simp only [hg]) <;> (try simp only [seval, go_sem]))
    · refine gO ?_
      have hi' : i < l.length := by simp at hg; omega
      obtain ⟨x, hx⟩ : ∃ x, l[i]? = some x := ⟨_, List.getElem?_eq_getElem hi'⟩
      obtain ⟨c1, ⟨v, rfl, hb⟩, hr1⟩ := he.at hr hx
      (refine ⟨⟨by omega, by omega, he.isAt hr (by decide) hi'⟩, ?_⟩; (try simp only [seval, go_sem]))
      (refine ldF.agg _ rfl (by first | exact .inl hr1 | exact hr1) ?_; (try simp only [seval, go_sem]))
      ((try with_reducible refine othM.toT ?_); refine oth_call rfl hok rfl rfl (hf x (List.mem_of_getElem? hx) v hb) ?_; rintro _ _ - ⟨rfl, rfl⟩; refine gO ?_)
      (with_reducible refine condI.split (fun hg => ?_) (fun hg => ?_) <;> (try simp only [hg]) <;> (try simp only [seval, go_sem]))
      · refine gO ?_
        (first|refine fN ?_|exact fZ)
        simp [any_of hx hg]
      · refine gO ?_
        refine ⟨i + 1, ⟨by omega, any_take hx ht hg⟩, by omega, ?_⟩
        exact lE
    · refine gO ?_
      (first|refine fN ?_|exact fZ)
      have : i = l.length := by simp at hg; omega
      subst this
      simp at ht
      simpa using ht
theorem containsP {p : Part → Bool} {fn : FuncId} {caps : List Value} {l : List Part} {A : Option Addr} {c : Nat} {cs : List Value} {z : Zc} (he : Els pRep z l cs) (hr : RdAt z A 0 cs) (hl : l.length ≤ 1000000000) (hok : callOk Tryz.prog fn = true)
    (hf : ∀ x ∈ l, ∀ v, By z (datP x) v → PSpec Tryz.prog fn ([vPart x v] ++ caps) z fun u z' => u = .bool (p x) ∧ z = z') :
    PSpec Tryz.prog 87 [.slice A l.length c, .func (.func fn) #[] caps.toArray] z fun v z' => v = .bool (l.any p) ∧ z = z' := by
  (refine pspec_enter Tryz.func87 ic87_ok fr87_ok Tryz.ntmps87 ?_; simp only [seval, go_sem, ic87, fr87])
  refine gO ?_
  refine tT ?_; refine callP (indexP he hr hl hok hf) rfl rfl ?_; rintro _ _ - ⟨⟨i, rfl, hi⟩, rfl⟩; refine gO ?_
  (first|refine fN ?_|exact fZ)
  simp [← hi]
theorem indexM {p : Msg → Bool} {fn : FuncId} {caps : List Value} {l : List Msg} {A : Option Addr} {c : Nat} {cs : List Value} {z : Zc} (he : Els mRep z l cs) (hr : RdAt z A 0 cs) (hl : l.length ≤ 1000000000) (hok : callOk Tryz.prog fn = true)
    (hf : ∀ x ∈ l, ∀ v, By z (datM x) v → PSpec Tryz.prog fn ([vMsg x v] ++ caps) z fun u z' => u = .bool (p x) ∧ z = z') :
    PSpec Tryz.prog 57 [.slice A l.length c, .func (.func fn) #[] caps.toArray] z fun v z' => (∃ i : Int, v = .int .i64 i ∧ decide (0 ≤ i) = l.any p) ∧ z = z' := by
  (refine pspec_enter Tryz.func57 ic57_ok fr57_ok Tryz.ntmps57 ?_; simp only [seval, go_sem, ic57, fr57])
  refine gO ?_
  refine loop_upd (ι := Nat) (n := 0) (fun i => i ≤ l.length ∧ (l.take i).any p = false) (fun i => [(8, .c (.v (.int .i64 i)))]) (fun _ => []) (fun _ => z) (fun i => l.length - i) 0 (by simp) (by (simp only [wrI, wrR, anyL, st, List.append_nil, List.nil_append, List.cons_append]); exact rfl) ?_ ?_
  · exact lE
  · rintro i ⟨hi, ht⟩
    refine gO ?_
    (with_reducible refine condI.split (fun hg => ?_) (fun hg => ?_) <;> (try simp only [hg]) <;> (try simp only [seval, go_sem]))
    · refine gO ?_
      have hi' : i < l.length := by simp at hg; omega
      obtain ⟨x, hx⟩ : ∃ x, l[i]? = some x := ⟨_, List.getElem?_eq_getElem hi'⟩
      obtain ⟨c1, ⟨v, rfl, hb⟩, hr1⟩ := he.at hr hx
      (refine ⟨⟨by omega, by omega, he.isAt hr (by decide) hi'⟩, ?_⟩; (try simp only [seval, go_sem]))
      (refine ldF.agg _ rfl (by first | exact .inl hr1 | exact hr1) ?_; (try simp only [seval, go_sem]))
      ((try with_reducible refine othM.toT ?_); refine oth_call rfl hok rfl rfl (hf x (List.mem_of_getElem? hx) v hb) ?_; rintro _ _ - ⟨rfl, rfl⟩; refine gO ?_)
      (with_reducible refine condI.split (fun hg => ?_) (fun hg => ?_) <;> (try simp only [hg]) <;> (try simp only [seval, go_sem]))
      · refine gO ?_
        (first|refine fN ?_|exact fZ)
        simp [any_of hx hg]
      · refine gO ?_
        refine ⟨i + 1, ⟨by omega, any_take hx ht hg⟩, by omega, ?_⟩
        exact lE
    · refine gO ?_
      (first|refine fN ?_|exact fZ)
      have : i = l.length := by simp at hg; omega
      subst this
      simp at ht
      simpa using ht
theorem containsM {p : Msg → Bool} {fn : FuncId} {caps : List Value} {l : List Msg} {A : Option Addr} {c : Nat} {cs : List Value} {z : Zc} (he : Els mRep z l cs) (hr : RdAt z A 0 cs) (hl : l.length ≤ 1000000000) (hok : callOk Tryz.prog fn = true)
    (hf : ∀ x ∈ l, ∀ v, By z (datM x) v → PSpec Tryz.prog fn ([vMsg x v] ++ caps) z fun u z' => u = .bool (p x) ∧ z = z') :
    PSpec Tryz.prog 33 [.slice A l.length c, .func (.func fn) #[] caps.toArray] z fun v z' => v = .bool (l.any p) ∧ z = z' := by
  (refine pspec_enter Tryz.func33 ic33_ok fr33_ok Tryz.ntmps33 ?_; simp only [seval, go_sem, ic33, fr33])
  refine gO ?_
  refine tT ?_; refine callP (indexM he hr hl hok hf) rfl rfl ?_; rintro _ _ - ⟨⟨i, rfl, hi⟩, rfl⟩; refine gO ?_
  (first|refine fN ?_|exact fZ)
  simp [← hi]
theorem indexS {p : (List Int) → Bool} {fn : FuncId} {caps : List Value} {l : List (List Int)} {A : Option Addr} {c : Nat} {cs : List Value} {z : Zc} (he : Els sduRep z l cs) (hr : RdAt z A 0 cs) (hl : l.length ≤ 1000000000) (hok : callOk Tryz.prog fn = true)
    (hf : ∀ x ∈ l, ∀ v, By z (datS x) v → PSpec Tryz.prog fn ([v] ++ caps) z fun u z' => u = .bool (p x) ∧ z = z') :
    PSpec Tryz.prog 90 [.slice A l.length c, .func (.func fn) #[] caps.toArray] z fun v z' => (∃ i : Int, v = .int .i64 i ∧ decide (0 ≤ i) = l.any p) ∧ z = z' := by
  (refine pspec_enter Tryz.func90 ic90_ok fr90_ok Tryz.ntmps90 ?_; simp only [seval, go_sem, ic90, fr90])
  refine gO ?_
  refine loop_upd (ι := Nat) (n := 0) (fun i => i ≤ l.length ∧ (l.take i).any p = false) (fun i => [(8, .c (.v (.int .i64 i)))]) (fun _ => []) (fun _ => z) (fun i => l.length - i) 0 (by simp) (by (simp only [wrI, wrR, anyL, st, List.append_nil, List.nil_append, List.cons_append]); exact rfl) ?_ ?_
  · exact lE
  · rintro i ⟨hi, ht⟩
    refine gO ?_
    (with_reducible refine condI.split (fun hg => ?_) (fun hg => ?_) <;> (try simp only [hg]) <;> (try simp only [seval, go_sem]))
    · refine gO ?_
      have hi' : i < l.length := by simp at hg; omega
      obtain ⟨x, hx⟩ : ∃ x, l[i]? = some x := ⟨_, List.getElem?_eq_getElem hi'⟩
      obtain ⟨c1, ⟨v, rfl, hb⟩, hr1⟩ := he.at hr hx
      (refine ⟨⟨by omega, by omega, he.isAt hr (by decide) hi'⟩, ?_⟩; (try simp only [seval, go_sem]))
      (refine ldF.one _ (by first | exact .inl hr1 | exact hr1) ?_; (try simp only [seval, go_sem]))
      ((try with_reducible refine othM.toT ?_); refine oth_call rfl hok rfl rfl (hf x (List.mem_of_getElem? hx) v hb) ?_; rintro _ _ - ⟨rfl, rfl⟩; refine gO ?_)
      (with_reducible refine condI.split (fun hg => ?_) (fun hg => ?_) <;> (try simp only [hg]) <;> (try simp only [seval, go_sem]))
      · refine gO ?_
        (first|refine fN ?_|exact fZ)
        simp [any_of hx hg]
      · refine gO ?_
        refine ⟨i + 1, ⟨by omega, any_take hx ht hg⟩, by omega, ?_⟩
        exact lE
    · refine gO ?_
      (first|refine fN ?_|exact fZ)
      have : i = l.length := by simp at hg; omega
      subst this
      simp at ht
      simpa using ht
theorem containsS {p : (List Int) → Bool} {fn : FuncId} {caps : List Value} {l : List (List Int)} {A : Option Addr} {c : Nat} {cs : List Value} {z : Zc} (he : Els sduRep z l cs) (hr : RdAt z A 0 cs) (hl : l.length ≤ 1000000000) (hok : callOk Tryz.prog fn = true)
    (hf : ∀ x ∈ l, ∀ v, By z (datS x) v → PSpec Tryz.prog fn ([v] ++ caps) z fun u z' => u = .bool (p x) ∧ z = z') :
    PSpec Tryz.prog 55 [.slice A l.length c, .func (.func fn) #[] caps.toArray] z fun v z' => v = .bool (l.any p) ∧ z = z' := by
  (refine pspec_enter Tryz.func55 ic55_ok fr55_ok Tryz.ntmps55 ?_; simp only [seval, go_sem, ic55, fr55])
  refine gO ?_
  refine tT ?_; refine callP (indexS he hr hl hok hf) rfl rfl ?_; rintro _ _ - ⟨⟨i, rfl, hi⟩, rfl⟩; refine gO ?_
  (first|refine fN ?_|exact fZ)
  simp [← hi]
theorem partsok1 (c : Cfg) (b : Nat) (p : Part) (v : Value) (z : Zc) (hr : RdAt z (some ⟨b, 0, none⟩) 0 [.int .i64 c.mode, .int .i64 c.win, .int .i64 c.mps, .int .i64 c.mtu, .int .i64 c.tri]) (hb : By z p.data v) (hl : p.data.length ≤ 1000000000) :
    PSpec Tryz.prog 88 ([vPart p v] ++ [.pointer (some ⟨b, 0, none⟩)]) z fun u z' => u = .bool (!(partOk p && decide ((p.data.length : Int) ≤ c.mps))) ∧ z = z' := by
  obtain ⟨A, k, rfl, hk, hB, hrb⟩ := hb.form
  (refine pspec_enter Tryz.func88 ic88_ok fr88_ok Tryz.ntmps88 ?_; simp only [seval, go_sem, ic88, fr88])
  (refine vsI.ptr ?_; refine gO ?_)
  refine tT ?_; refine callP (partok_i p A _ _ _ hl rfl) rfl rfl ?_; rintro _ _ - ⟨rfl, rfl⟩; refine gO ?_
  (with_reducible refine guardR.split (fun hg => ?_) (fun hg => ?_) <;> (try simp only [hg]) <;> simp only [seval, go_sem])
  · refine gO ?_
    (first|refine fN ?_|exact fZ)
    simp_all
  · refine gO ?_
    (refine ldF.one _ (by first | exact .inl (hr.cell 2 rfl) | exact (hr.cell 2 rfl)) ?_; (try simp only [seval, go_sem]))
    (first|refine fN ?_|exact fZ)
    simp [hg, ← decide_not, Int.not_le]
theorem partsok_i (c : Cfg) (l : List Part) (v : Value) (z : Zc) (h : Sl pRep z l v) (hl : l.length ≤ 1000000000) (hp : ∀ p ∈ l, p.data.length ≤ 1000000000) :
    PSpec Tryz.prog 53 [vCfg c, v] z fun u z' => u = .bool (partsOk c l) := by
  obtain ⟨A, k, cs, rfl, hk, he, hr⟩ := h
  (refine pspec_enter Tryz.func53 ic53_ok fr53_ok Tryz.ntmps53 ?_; simp only [seval, go_sem, ic53, fr53])
  (refine vsI.frz 0 rfl rfl rfl (fun b z1 hz1 hr1 => ?_)); simp only [seval, go_sem, Go.Proofs.YtpblmlaahapohaaGreat.frz, subV, subC, subE, subL]; refine gO ?_
  ((try with_reducible refine othM.toT ?_); refine oth_makeFunc rfl ?_; refine gO ?_)
  refine tT ?_; refine callP (containsP (p := fun p => !(partOk p && decide ((p.data.length : Int) ≤ c.mps))) (caps := [.pointer (some ⟨b, 0, none⟩)]) (he.mono hz1) (hr.mono hz1) hl (by kernel_rfl) (fun x hx v hv => partsok1 c b x v z1 hr1 hv (hp x hx))) rfl rfl ?_; rintro _ _ - ⟨rfl, rfl⟩; refine gO ?_
  (first|refine fN ?_|exact fZ)
  simp [partsOk, List.all_eq_not_any_not]
theorem sdusok1 (b : List Int) (v : Value) (z : Zc) (hb : By z b v) (hl : b.length ≤ 1000000000) : PSpec Tryz.prog 56 ([v] ++ []) z fun u z' => u = .bool (!decide (b.length ≤ 24)) ∧ z = z' := by
  obtain ⟨A, k, rfl, hk, hB, hrb⟩ := hb.form
  (refine pspec_enter Tryz.func56 ic56_ok fr56_ok Tryz.ntmps56 ?_; simp only [seval, go_sem, ic56, fr56])
  (try simp only [seval, go_sem]); repeat' (first | (with_reducible refine vsI.id ?_; (try simp only [seval, go_sem])) | (with_reducible refine vcI_cond ?_; (try simp only [seval, go_sem])) | (with_reducible refine guardR.split (fun hg => ?_) (fun hg => ?_) <;> (try simp only [hg]) <;> simp only [seval, go_sem]) | (with_reducible refine condI.split (fun hg => ?_) (fun hg => ?_) <;> (try simp only [hg]) <;> (try simp only [seval, go_sem])) | (with_reducible refine callM.toT ?_))
  (first|refine fN ?_|exact fZ)
  simp [← decide_not]; omega
theorem sdusok_i (l : List (List Int)) (v : Value) (z : Zc) (h : Sl sduRep z l v) (hl : l.length ≤ 1000000000) (hp : ∀ p ∈ l, p.length ≤ 1000000000) :
    PSpec Tryz.prog 32 [v] z fun u z' => u = .bool (sdusOk l) ∧ z = z' := by
  obtain ⟨A, k, cs, rfl, hk, he, hr⟩ := h
  (refine pspec_enter Tryz.func32 ic32_ok fr32_ok Tryz.ntmps32 ?_; simp only [seval, go_sem, ic32, fr32])
  refine gO ?_
  (with_reducible refine guardR.split (fun hg => ?_) (fun hg => ?_) <;> (try simp only [hg]) <;> simp only [seval, go_sem])
  · refine tT ?_; refine callP (containsS (p := fun b => !decide (b.length ≤ 24)) (caps := []) he hr hl (by kernel_rfl) (fun x hx v hv => sdusok1 x v z hv (hp x hx))) rfl rfl ?_; rintro _ _ - ⟨rfl, rfl⟩; refine gO ?_
    (first|refine fN ?_|exact fZ)
    simp at hg
    simp [sdusOk, List.all_eq_not_any_not]; omega
  · refine gO ?_
    (first|refine fN ?_|exact fZ)
    simp at hg
    simp [sdusOk]; omega
end Go.Proofs.YtpblmlaahapohaaGreat
