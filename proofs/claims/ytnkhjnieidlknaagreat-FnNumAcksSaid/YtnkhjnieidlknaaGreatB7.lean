/- The engine: what is behind a pointer that is handed in. · The engine: rows that grow, with their form. · The engine: a block is taken back, at some registers alone. · The engine: what ends a walk of two ends, in one step each, for merged texts. · Codes of functions, group Base. · What the small functions do: clones, ranges, numbers, what is ok. · Codes of functions, group List. -/
import Derived.Test.YtnkhjnieidlknaaGreatB6
import Derived.Test.YtnkhjnieidlknaaGreatB4
import Derived.Test.YtnkhjnieidlknaaGreatB3
import Derived.Test.YtnkhjnieidlknaaGreatProg
namespace Go.Proofs.YtnkhjnieidlknaaGreat
open Go.RowKit
set_option linter.unusedVariables false
set_option linter.unusedSimpArgs false
def ptrA (e b : Nat) (vs : List Value) : Asrt where
  holds w F := w.heap[b]? = some (.cells vs.toArray e (0, 0)) ∧ ∀ x, F x ↔ x = b
  loc := fun h k => ⟨(k b ((h.2 b).2 rfl)).trans h.1, h.2⟩
  dom := fun h hb => by rw [(h.2 _).1 hb]; exact lt_of_heap h.1
def unV (j b : Nat) : SV → SV
  | .c (.f (some ⟨b', 0, none⟩) o) => if b' = b then .c (.p j o) else .c (.f (some ⟨b', 0, none⟩) o)
  | x => x
theorem unV_den {ρ : Nm} {j b : Nat} (hb : ρ[j]? = some b) (x : SV) (u : Value) (h : x.den ρ u) : (unV j b x).den ρ u := by
  unfold unV
  split
  · rename_i b' o
    split
    · rename_i e
      subst e
      obtain ⟨b0, o', e1, rfl⟩ := h
      injection e1 with e1
      injection e1 with e1 e2
      subst e1
      subst e2
      exact ⟨_, hb, by rw [Nat.zero_add]⟩
    · exact h
  · exact h
def vals (vs : List Value) : List SC := vs.map .v
theorem vals_den {ρ : Nm} : ∀ (vs : List Value), DL (SC.den ρ) (vals vs) vs
  | [] => trivial
  | v :: vs => ⟨rfl, vals_den vs⟩
section
variable {P : Program} {s : St} {K : St → Prop} {d : Option Nat}
def giveSt (s : St) (k j m b e : Nat) (vs : List Value) : St := ⟨s.t.map (subV j b), (k, .own (ptrA e b vs)) :: (m, .link j b) :: subL j b (del j s.L), s.z, s.n⟩
theorem Sat.give {C : Ctx} {ρ : Nm} {a : Act} {w : World} (k j m : Nat) {e : Nat} {cs : List SC} {vs : List Value} (hk : look j s.L = some (.cells e cs)) (hv : allV cs = some vs) (hs : Sat C ρ s a w) :
    ∃ b, ρ[j]? = some b ∧ Sat C ρ (giveSt s k j m b e vs) a w := by
  obtain ⟨F, hh, hw⟩ := hs.mem
  obtain ⟨F1, F2, ⟨b, us, a1, a2, a3, a4⟩, k2, kd, kF⟩ := hh.pick hk
  have hus := allV_den hv a2
  subst hus
  exact ⟨b, a1, hs.df, hs.fr.map_left (subV_den a1), hs.nm, F, ⟨F1, F2, ⟨a3, a4⟩, ⟨fun _ => False, F2, ⟨a1, fun _ h => h⟩, subL_holds a1 k2, fun _ h => h.elim, fun x => by simp⟩, kd, kF⟩, hw⟩
theorem opT.give {o : Oper} (k j m : Nat) {e : Nat} {cs : List SC} {vs : List Value} (hk : look j s.L = some (.cells e cs)) (hv : allV cs = some vs) (h : ∀ b, opT P o (giveSt s k j m b e vs) K) : opT P o s K := fun C ρ a w Q hs => by
  obtain ⟨b, _, hs'⟩ := hs.give k j m hk hv
  exact h b C ρ a w Q hs'
theorem callT.give {f : FuncId} {args : List Operand} (k j m : Nat) {e : Nat} {cs : List SC} {vs : List Value} (hk : look j s.L = some (.cells e cs)) (hv : allV cs = some vs) (h : ∀ b, callT P f args d (giveSt s k j m b e vs) K) : callT P f args d s K := fun o h1 h2 => opT.give k j m hk hv fun b => h b o h1 h2
theorem FinV.give {fr : List FR} {R : Value → Zc → Asrt → Prop} (k j m l : Nat) {e b : Nat} {cs : List SC} {vs : List Value} (hk : look j s.L = some (.cells e cs)) (hv : allV cs = some vs) (hl : look l s.L = some (.link j b)) (h : FinV fr (giveSt s k j m b e vs) R) : FinV fr s R := fun C ρ a w hs => by
  obtain ⟨b', h1, hs'⟩ := hs.give k j m hk hv
  obtain ⟨F, hh, hw⟩ := hs.mem
  obtain ⟨F1, F2, ⟨h2, _⟩, _⟩ := hh.pick hl
  rw [h1] at h2
  injection h2 with h2
  subst h2
  exact h C ρ a w hs'
def takeSt (s : St) (k j b e : Nat) (vs : List Value) : St := ⟨s.t.map (unV j b), (j, .cells e (vals vs)) :: del k s.L, s.z, s.n⟩
theorem Tf.take (k j m : Nat) {e b : Nat} {vs : List Value} (hk : look k s.L = some (.own (ptrA e b vs))) (hm : look m s.L = some (.link j b)) (hj : look j (del k s.L) = none) {C : Ctx} {ρ : Nm} {a : Act} {w : World} (hs : Sat C ρ s a w) : Sat C ρ (takeSt s k j b e vs) a w := by
  obtain ⟨F, hh, hw⟩ := hs.mem
  obtain ⟨G1, G2, ⟨h2, _⟩, _⟩ := hh.pick hm
  obtain ⟨F1, F2, ⟨a3, a4⟩, k2, kd, kF⟩ := hh.pick hk
  exact ⟨hs.df, hs.fr.map_left (unV_den h2), hs.nm, F, ⟨F1, F2, ⟨b, vs, h2, vals_den vs, a3, a4⟩, k2, kd, kF⟩, hw⟩
theorem vsI.take {ic : IC} {K : Exit → St → Prop} (k j m : Nat) {e b : Nat} {vs : List Value} (hk : look k s.L = some (.own (ptrA e b vs))) (hm : look m s.L = some (.link j b)) (hj : look j (del k s.L) = none) (h : vsI P ic K (takeSt s k j b e vs)) : vsI P ic K s := fun C ρ a w hs => h C ρ a w (Tf.take k j m hk hm hj hs)
theorem FinV.take {fr : List FR} {R : Value → Zc → Asrt → Prop} (k j m : Nat) {e b : Nat} {vs : List Value} (hk : look k s.L = some (.own (ptrA e b vs))) (hm : look m s.L = some (.link j b)) (hj : look j (del k s.L) = none) (h : FinV fr (takeSt s k j b e vs) R) : FinV fr s R := fun C ρ a w hs => h C ρ a w (Tf.take k j m hk hm hj hs)
end
theorem spec_enterP {P : Program} {f : FuncId} {fn : Func} {ic : IC} {fr : List FR} {pl : List FuncId} {b e : Nat} {vs : List Value} {args : List Value} {m : Nat} {z : Zc} {As : List Asrt} {R : Value → Zc → Asrt → Prop} (ks : List Nat)
    (hf : P.funcs[f]? = some fn) (hc : fn.body.bind (trC P pl) = some ic) (hr : fres P fn.results.toList = some fr) (hn : fn.ntmps = m) (hl : ks.length = As.length)
    (hv : vcI P ic ⟨.c (.p 0 0) :: (args.map ofV ++ List.replicate (m - (args.length + 1)) unS), (0, .cells e (vals vs)) :: (2000, .link 0 b) :: zipL ks As [], z, 1⟩ (postK fr R)) : Spec P f (.pointer (some ⟨b, 0, none⟩) :: args) z (starL (ptrA e b vs :: As)) R :=
  spec_enter hf hc hr hn fun C ρ a w hs => by
    have hρ : ρ = [] := List.eq_nil_of_length_eq_zero hs.nm
    subst hρ
    refine ⟨_, [b], hv, hs.df, ?_, rfl, ?_⟩
    · have hfr := hs.fr
      generalize a.tmps.toList = ts at hfr
      cases ts with
      | nil => exact hfr.elim
      | cons t ts =>
        obtain ⟨h1, h2⟩ := hfr
        refine ⟨⟨b, rfl, h1⟩, ?_⟩
        exact DL.mono (fun _ _ => SV.den.ext (List.nil_prefix)) h2
    · obtain ⟨F, ⟨F1, F2, ⟨G1, G2, ⟨g1, g2⟩, g3, gd, gF⟩, hE, kd, kF⟩, hw⟩ := hs.mem
      have hop : Holds [] w (zipL ks As []) G2 := by
        have := Holds.open' (ρ := []) (w := w) (k := 1000) (ks := ks) (L := []) (As := As) (F := G2) hl ⟨G2, fun _ => False, g3, fun _ h => h, fun _ _ h => h, fun b => by simp⟩
        exact this
      refine ⟨F, ⟨G1, G2, ⟨b, vs, rfl, vals_den vs, g1, g2⟩, ⟨fun _ => False, G2, ⟨rfl, fun _ h => h⟩, hop.ext List.nil_prefix, fun _ h => h.elim, fun x => by simp⟩, gd, fun x => ?_⟩, hw⟩
      rw [kF x, gF x]
      have := hE x
      simp [this]
section
variable {P : Program} {s : St} {K : St → Prop}
theorem opM.sat {o : Oper} {K' : St → Prop} (h : opM P o s K') (hk : ∀ s', K' s' → ∀ C ρ a w, Sat C ρ s' a w → K s') : opM P o s K := fun C ρ a w Q hs =>
  Oper.wp_mono (fun a' w' ⟨s', ρ', h1, h2, h3⟩ => ⟨s', ρ', hk s' h1 _ _ _ _ h2, h2, h3⟩) (h C ρ a w Q hs)
theorem Sat.formR {C : Ctx} {ρ : Nm} {a : Act} {w : World} (k : Nat) {e sz n : Nat} {v : Value} {cs : List Value} (hk : look k s.L = some (.own (rowA e sz v n cs))) (hs : Sat C ρ s a w) : ∃ A c, v = .slice A n c ∧ n ≤ c ∧ (0 < n → IsAt A) := by
  obtain ⟨F, hh, hw⟩ := hs.mem
  obtain ⟨F1, F2, ⟨hrow, _⟩, _⟩ := hh.pick hk
  rcases hrow.2 with ⟨e1, e0⟩ | ⟨g, o, cap, cur, e1, _, e2, _⟩
  · subst e0; exact ⟨none, 0, e1, Nat.le_refl _, fun h => absurd h (Nat.lt_irrefl _)⟩
  · exact ⟨_, _, e1, e2, fun _ => ⟨g, o, rfl⟩⟩
theorem appM_rowF (k : Nat) {t e sz : Nat} {x y : Operand} {d : Option Nat} (ht : AppTy P t e sz) {v : Value} {n : Nat} {cs : List Value} (hk : look k s.L = some (.own (rowA e sz v n cs))) (hk' : look k (del k s.L) = none) (hx : ev s.t x = .c (.v v))
    {A : Option Addr} {m c : Nat} {news : List Value} (hy : ev s.t y = .c (.v (.slice A m c))) (hr : RdAt s.z A 0 news) (hl : news.length = m * sz) (h1 : ∀ u ∈ news, u.oneCell' = true) (hb : n + m ≤ 1000000000)
    (hK : ∀ A' c', n + m ≤ c' → K ⟨stO s.t d (.c (.v (.slice A' (n + m) c'))), (k, .own (rowA e sz (.slice A' (n + m) c') (n + m) (cs ++ news))) :: del k s.L, s.z, s.n⟩) : appM P t x y d s K := fun o ho hd =>
  opM.sat (appM_row (K := fun s' => ∃ v', s' = ⟨stO s.t d (.c (.v v')), (k, .own (rowA e sz v' (n + m) (cs ++ news))) :: del k s.L, s.z, s.n⟩) k ht hk hk' hx hy hr hl h1 hb (fun v' => ⟨v', rfl⟩) o ho hd) fun s' ⟨v', e'⟩ C ρ a w hs => by
    subst e'
    obtain ⟨A', c', e1, e2, _⟩ := hs.formR k (by show (if k = k then _ else _) = _; rw [if_pos rfl])
    subst e1
    exact hK A' c' e2
theorem appM_newF (k : Nat) {t e sz : Nat} {x y : Operand} {d : Option Nat} (ht : AppTy P t e sz) {v : Value} {n : Nat} {cs : List Value} (hk : look k s.L = some (.own (rowA e sz v n cs))) (hk' : look k (del k s.L) = none) (hx : ev s.t x = .c (.v v))
    {j m c e' : Nat} {cj : List SC} {news : List Value} (hy : ev s.t y = .c (.s j 0 m c)) (hj : look j s.L = some (.cells e' cj)) (hcj : allV cj = some news) (hl : news.length = m * sz) (h1 : ∀ u ∈ news, u.oneCell' = true) (hb : n + m ≤ 1000000000)
    (hK : ∀ A' c', n + m ≤ c' → IsAt A' ∨ m = 0 → K ⟨stO s.t d (.c (.v (.slice A' (n + m) c'))), (k, .own (rowA e sz (.slice A' (n + m) c') (n + m) (cs ++ news))) :: del k s.L, s.z, s.n⟩) : appM P t x y d s K := fun o ho hd =>
  opM.sat (appM_new (K := fun s' => ∃ v', s' = ⟨stO s.t d (.c (.v v')), (k, .own (rowA e sz v' (n + m) (cs ++ news))) :: del k s.L, s.z, s.n⟩) k ht hk hk' hx hy hj hcj hl h1 hb (fun v' => ⟨v', rfl⟩) o ho hd) fun s' ⟨v', e'⟩ C ρ a w hs => by
    subst e'
    obtain ⟨A', c', e1, e2, e3⟩ := hs.formR k (by show (if k = k then _ else _) = _; rw [if_pos rfl])
    subst e1
    refine hK A' c' e2 ?_
    rcases Nat.eq_zero_or_pos m with h0 | h0
    · exact .inr h0
    · exact .inl (e3 (by omega))
end
theorem unst_den {ρ : Nm} {j b : Nat} (hb : ρ[j]? = some b) : ∀ {t : List SV} {us : List Value} (d : Nat), DL (SV.den ρ) t us → DL (SV.den ρ) (st t d (unV j b (gt t d))) us
  | [], [], d, h => by cases d <;> exact h
  | x :: t, u :: us, 0, h => ⟨unV_den hb x u h.1, h.2⟩
  | x :: t, u :: us, d + 1, h => ⟨h.1, unst_den hb d h.2⟩
  | [], _ :: _, _, h => h.elim
  | _ :: _, [], _, h => h.elim
def unAt (j b : Nat) : List Nat → List SV → List SV
  | [], t => t
  | d :: ds, t => unAt j b ds (st t d (unV j b (gt t d)))
theorem unAt_den {ρ : Nm} {j b : Nat} (hb : ρ[j]? = some b) : ∀ (ds : List Nat) {t : List SV} {us : List Value}, DL (SV.den ρ) t us → DL (SV.den ρ) (unAt j b ds t) us
  | [], _, _, h => h
  | d :: ds, _, _, h => unAt_den hb ds (unst_den hb d h)
section
variable {P : Program} {s : St}
def takeSt' (s : St) (ds : List Nat) (k j b e : Nat) (vs : List Value) : St := ⟨unAt j b ds s.t, (j, .cells e (vals vs)) :: del k s.L, s.z, s.n⟩
theorem Tf.take' (ds : List Nat) (k j m : Nat) {e b : Nat} {vs : List Value} (hk : look k s.L = some (.own (ptrA e b vs))) (hm : look m s.L = some (.link j b)) (hj : look j (del k s.L) = none) {C : Ctx} {ρ : Nm} {a : Act} {w : World} (hs : Sat C ρ s a w) : Sat C ρ (takeSt' s ds k j b e vs) a w := by
  obtain ⟨F, hh, hw⟩ := hs.mem
  obtain ⟨G1, G2, ⟨h2, _⟩, _⟩ := hh.pick hm
  obtain ⟨F1, F2, ⟨a3, a4⟩, k2, kd, kF⟩ := hh.pick hk
  exact ⟨hs.df, unAt_den h2 ds hs.fr, hs.nm, F, ⟨F1, F2, ⟨b, vs, h2, vals_den vs, a3, a4⟩, k2, kd, kF⟩, hw⟩
theorem vsI.take' {ic : IC} {K : Exit → St → Prop} (ds : List Nat) (k j m : Nat) {e b : Nat} {vs : List Value} (hk : look k s.L = some (.own (ptrA e b vs))) (hm : look m s.L = some (.link j b)) (hj : look j (del k s.L) = none) (h : vsI P ic K (takeSt' s ds k j b e vs)) : vsI P ic K s := fun C ρ a w hs => h C ρ a w (Tf.take' ds k j m hk hm hj hs)
theorem FinV.take' {fr : List FR} {R : Value → Zc → Asrt → Prop} (ds : List Nat) (k j m : Nat) {e b : Nat} {vs : List Value} (hk : look k s.L = some (.own (ptrA e b vs))) (hm : look m s.L = some (.link j b)) (hj : look j (del k s.L) = none) (h : FinV fr (takeSt' s ds k j b e vs) R) : FinV fr s R := fun C ρ a w hs => h C ρ a w (Tf.take' ds k j m hk hm hj hs)
end
theorem wF1 {A B : Prop} (h : B) (f : B → A := by intro h; refine FinV.give 1000 0 2001 2000 rfl rfl rfl ?_; simp only [seval, go_sem, giveSt, subV, subC, subE, subL]; refine FinV.pk 999 [1000, 10, 11, 22, 23, 32, 33, 40, 41, 50, 51] ?_; dsimp only; refine fP ?_; exact h) : A := f h
theorem wF3 {A B : Prop} (h : B) (f : B → A := by intro h; refine FinV.give 1000 0 2003 2000 rfl rfl rfl ?_; simp only [seval, go_sem, giveSt, subV, subC, subE, subL]; refine FinV.pk 999 [1000, 10, 11, 22, 23, 32, 33, 40, 41, 50, 51] ?_; dsimp only; refine fP ?_; exact h) : A := f h
theorem wF5 {A B : Prop} (h : B) (f : B → A := by intro h; refine FinV.give 1000 0 2005 2000 rfl rfl rfl ?_; simp only [seval, go_sem, giveSt, subV, subC, subE, subL]; refine FinV.pk 999 [1000, 10, 11, 22, 23, 32, 33, 40, 41, 50, 51] ?_; dsimp only; refine fP ?_; exact h) : A := f h
theorem wC {A B : Prop} (h : B) (f : B → A := by intro h; refine tT ?_; refine callM.pk 94 [93, 10, 11, 22, 23, 32, 33, 40, 41, 50, 51] ?_; dsimp only; exact h) : A := f h
theorem wD {A B : Prop} (h : B) (f : B → A := by intro h; refine tT ?_; refine callM.pk 91 [90, 10, 11, 22, 23, 32, 33, 40, 41, 50, 51] ?_; dsimp only; exact h) : A := f h
theorem wO {A B : Prop} (h : B) (f : B → A := by intro h; refine FinV.tf (Tf.open' 94 [95, 10, 11, 22, 23, 32, 33, 40, 41, 50, 51] rfl rfl rfl) ?_; simp only [seval, go_sem, zipL]; refine FinV.take' [0] 95 0 2003 rfl rfl rfl ?_; simp only [seval, go_sem, takeSt', unAt, unV, vals]; exact h) : A := f h
theorem wS {A B : Prop} (h : B) (f : B → A := by intro h; refine FinV.pk 999 [10, 11, 20, 21, 22, 23, 30, 31, 32, 33, 40, 41, 50, 51] ?_; dsimp only; refine fP ?_; exact h) : A := f h
theorem wT {A B : Prop} (h : B) (f : B → A := by intro h; refine tT ?_; refine callM.pk 999 [10, 11, 20, 21, 22, 23, 30, 31, 32, 33, 40, 41, 50, 51] ?_; dsimp only; exact h) : A := f h
set_option maxRecDepth 100000
set_option maxHeartbeats 4000000
def ic29 : IC := (xR (xt (.mv (.const zS)) 2 .done) (xR (xtM 0 3 (xt (.call 59 [xr 3]) 4 (xt (.call 58 [xr 4]) 5 (xtM 5 2 .done)))) .ret))
theorem ic29_ok : Tryz.f29.body.bind (trC Tryz.prog []) = some ic29 := by kernel_rfl
def fr29 : List FR := [(FR.t 2)]
theorem fr29_ok : fres Tryz.prog Tryz.f29.results.toList = some fr29 := by kernel_rfl
def ic145 : IC := (xR (xt (.mv (.const zS)) 2 .done) (xR (xtM 0 3 (xt (.call 166 [xr 3]) 4 (xt (.call 165 [xr 4]) 5 (xtM 5 2 .done)))) .ret))
theorem ic145_ok : Tryz.f145.body.bind (trC Tryz.prog []) = some ic145 := by kernel_rfl
def fr145 : List FR := [(FR.t 2)]
theorem fr145_ok : fres Tryz.prog Tryz.f145.results.toList = some fr145 := by kernel_rfl
def ic74 : IC := (xR (xt (.mv (.const zS)) 2 .done) (xR (xtM 0 3 (xt (.call 108 [xr 3]) 4 (xt (.call 107 [xr 4]) 5 (xtM 5 2 .done)))) .ret))
theorem ic74_ok : Tryz.f74.body.bind (trC Tryz.prog []) = some ic74 := by kernel_rfl
def fr74 : List FR := [(FR.t 2)]
theorem fr74_ok : fres Tryz.prog Tryz.f74.results.toList = some fr74 := by kernel_rfl
def ic59 : IC := (xR (xt (.mv (.const zS)) 2 .done) (.seq (xR (xtM 0 3 (xt (.isn false (xr 3)) 4 .done)) (.cond (xr 4) (xR (xt (.mv (.const zS)) 2 .done) .ret) .skip)) (xR (xt (.bsl 5 1 0 [(.int .u8 0)] []) 5 (xtM 0 6 (xt (.app 22 (xr 5) (xr 6)) 7 (xtM 7 2 .done)))) .ret)))
theorem ic59_ok : Tryz.f59.body.bind (trC Tryz.prog []) = some ic59 := by kernel_rfl
def fr59 : List FR := [(FR.t 2)]
theorem fr59_ok : fres Tryz.prog Tryz.f59.results.toList = some fr59 := by kernel_rfl
def ic58 : IC := (xR (xt (.mv (.const zS)) 2 .done) (xR (xtM 0 3 (xtM 0 4 (xtL 4 5 (xtM 0 6 (xtL 6 7 (xt (.sl3 (xr 3) none (xr 5) (xr 7) 1) 8 (xtM 8 2 .done))))))) .ret))
theorem ic58_ok : Tryz.f58.body.bind (trC Tryz.prog []) = some ic58 := by kernel_rfl
def fr58 : List FR := [(FR.t 2)]
theorem fr58_ok : fres Tryz.prog Tryz.f58.results.toList = some fr58 := by kernel_rfl
def ic166 : IC := (xR (xt (.mv (.const zS)) 2 .done) (.seq (xR (xtM 0 3 (xt (.isn false (xr 3)) 4 .done)) (.cond (xr 4) (xR (xt (.mv (.const zS)) 2 .done) .ret) .skip)) (xR (xt (.bsl 63 3 0 [zI, zI, zS] []) 5 (xtM 0 6 (xt (.app 36 (xr 5) (xr 6)) 7 (xtM 7 2 .done)))) .ret)))
theorem ic166_ok : Tryz.f166.body.bind (trC Tryz.prog []) = some ic166 := by kernel_rfl
def fr166 : List FR := [(FR.t 2)]
theorem fr166_ok : fres Tryz.prog Tryz.f166.results.toList = some fr166 := by kernel_rfl
def ic165 : IC := (xR (xt (.mv (.const zS)) 2 .done) (xR (xtM 0 3 (xtM 0 4 (xtL 4 5 (xtM 0 6 (xtL 6 7 (xt (.sl3 (xr 3) none (xr 5) (xr 7) 3) 8 (xtM 8 2 .done))))))) .ret))
theorem ic165_ok : Tryz.f165.body.bind (trC Tryz.prog []) = some ic165 := by kernel_rfl
def fr165 : List FR := [(FR.t 2)]
theorem fr165_ok : fres Tryz.prog Tryz.f165.results.toList = some fr165 := by kernel_rfl
def ic108 : IC := (xR (xt (.mv (.const zS)) 2 .done) (.seq (xR (xtM 0 3 (xt (.isn false (xr 3)) 4 .done)) (.cond (xr 4) (xR (xt (.mv (.const zS)) 2 .done) .ret) .skip)) (xR (xt (.bsl 56 2 0 [zB, zS] []) 5 (xtM 0 6 (xt (.app 50 (xr 5) (xr 6)) 7 (xtM 7 2 .done)))) .ret)))
theorem ic108_ok : Tryz.f108.body.bind (trC Tryz.prog []) = some ic108 := by kernel_rfl
def fr108 : List FR := [(FR.t 2)]
theorem fr108_ok : fres Tryz.prog Tryz.f108.results.toList = some fr108 := by kernel_rfl
def ic107 : IC := (xR (xt (.mv (.const zS)) 2 .done) (xR (xtM 0 3 (xtM 0 4 (xtL 4 5 (xtM 0 6 (xtL 6 7 (xt (.sl3 (xr 3) none (xr 5) (xr 7) 2) 8 (xtM 8 2 .done))))))) .ret))
theorem ic107_ok : Tryz.f107.body.bind (trC Tryz.prog []) = some ic107 := by kernel_rfl
def fr107 : List FR := [(FR.t 2)]
theorem fr107_ok : fres Tryz.prog Tryz.f107.results.toList = some fr107 := by kernel_rfl
def ic34 : IC := (xR (xt (.mv (xb false)) 6 .done) (xR (xtM 0 7 (xtM 1 8 (xt (.bin .geq (xr 7) (xr 8)) 9 (xtM 9 10 (xG (.mv (xr 0)) 11 10 true (xG (.mv (xr 2)) 12 10 true (xG (.bin .leq (xr 11) (xr 12)) 13 10 true (xt (.pick (xr 10) (xr 13) (xb false)) 14 (xtM 14 6 .done))))))))) .ret))
theorem ic34_ok : Tryz.f34.body.bind (trC Tryz.prog []) = some ic34 := by kernel_rfl
def fr34 : List FR := [(FR.t 6)]
theorem fr34_ok : fres Tryz.prog Tryz.f34.results.toList = some fr34 := by kernel_rfl
def ic84 : IC := (xR (xt (.mv (xb false)) 6 .done) (xR (xtM 0 7 (xtM 1 8 (xt (.bin .geq (xr 7) (xr 8)) 9 (xtM 9 10 (xG (.mv (xr 0)) 11 10 true (xG (.mv (xr 2)) 12 10 true (xG (.bin .leq (xr 11) (xr 12)) 13 10 true (xt (.pick (xr 10) (xr 13) (xb false)) 14 (xtM 14 6 .done))))))))) .ret))
theorem ic84_ok : Tryz.f84.body.bind (trC Tryz.prog []) = some ic84 := by kernel_rfl
def fr84 : List FR := [(FR.t 6)]
theorem fr84_ok : fres Tryz.prog Tryz.f84.results.toList = some fr84 := by kernel_rfl
def ic32 : IC := (xR (xt (.mv (xb false)) 2 .done) (xR (xtM 0 3 (xt (.call 34 [xr 3, (xi 0), (xi 7)]) 4 (xtM 4 2 .done))) .ret))
theorem ic32_ok : Tryz.f32.body.bind (trC Tryz.prog []) = some ic32 := by kernel_rfl
def fr32 : List FR := [(FR.t 2)]
theorem fr32_ok : fres Tryz.prog Tryz.f32.results.toList = some fr32 := by kernel_rfl
def ic26 : IC := (xR (xt (.box 24 (xr 0)) 1 (xt (.mv (xb false)) 2 .done)) (xR (xtF 1 0 3 (xtO 3 4 (xt (.call 34 [xr 4, (xi 1), (xi 2)]) 5 (xtM 5 6 (xG (.fad (xr 1) 1) 7 6 true (xG (.ld (xr 7) 1 false) 8 6 true (xG (.call 34 [xr 8, (xi 1), (xi 4)]) 9 6 true (xt (.pick (xr 6) (xr 9) (xb false)) 10 (xtM 10 11 (xG (.fad (xr 1) 2) 12 11 true (xG (.ld (xr 12) 1 false) 13 11 true (xG (.call 34 [xr 13, (xi 1), (xi 8)]) 14 11 true (xt (.pick (xr 11) (xr 14) (xb false)) 15 (xtM 15 16 (xG (.fad (xr 1) 3) 17 16 true (xG (.ld (xr 17) 1 false) 18 16 true (xG (.call 34 [xr 18, (xi 1), (xi 24)]) 19 16 true (xt (.pick (xr 16) (xr 19) (xb false)) 20 (xtM 20 21 (xG (.fad (xr 1) 4) 22 21 true (xG (.ld (xr 22) 1 false) 23 21 true (xG (.call 34 [xr 23, (xi 1), (xi 5)]) 24 21 true (xt (.pick (xr 21) (xr 24) (xb false)) 25 (xtM 25 2 .done)))))))))))))))))))))))) .ret))
theorem ic26_ok : Tryz.f26.body.bind (trC Tryz.prog []) = some ic26 := by kernel_rfl
def fr26 : List FR := [(FR.t 2)]
theorem fr26_ok : fres Tryz.prog Tryz.f26.results.toList = some fr26 := by kernel_rfl
def ic80 : IC := (xR (xt (.box 24 (xr 0)) 1 (xt (.mv (xb false)) 2 .done)) (xR (xtF 1 0 3 (xtO 3 4 (xt (.call 84 [xr 4, (xi 1), (xi 2)]) 5 (xtM 5 6 (xG (.fad (xr 1) 1) 7 6 true (xG (.ld (xr 7) 1 false) 8 6 true (xG (.call 84 [xr 8, (xi 1), (xi 4)]) 9 6 true (xt (.pick (xr 6) (xr 9) (xb false)) 10 (xtM 10 11 (xG (.fad (xr 1) 2) 12 11 true (xG (.ld (xr 12) 1 false) 13 11 true (xG (.call 84 [xr 13, (xi 1), (xi 8)]) 14 11 true (xt (.pick (xr 11) (xr 14) (xb false)) 15 (xtM 15 16 (xG (.fad (xr 1) 3) 17 16 true (xG (.ld (xr 17) 1 false) 18 16 true (xG (.call 84 [xr 18, (xi 1), (xi 24)]) 19 16 true (xt (.pick (xr 16) (xr 19) (xb false)) 20 (xtM 20 21 (xG (.fad (xr 1) 4) 22 21 true (xG (.ld (xr 22) 1 false) 23 21 true (xG (.call 84 [xr 23, (xi 1), (xi 5)]) 24 21 true (xt (.pick (xr 21) (xr 24) (xb false)) 25 (xtM 25 2 .done)))))))))))))))))))))))) .ret))
theorem ic80_ok : Tryz.f80.body.bind (trC Tryz.prog []) = some ic80 := by kernel_rfl
def fr80 : List FR := [(FR.t 2)]
theorem fr80_ok : fres Tryz.prog Tryz.f80.results.toList = some fr80 := by kernel_rfl
def ic33 : IC := (xR (xt (.mv (xi 0)) 4 .done) (xR (xtM 1 5 (xtM 0 6 (xt (.bin .sub (xr 5) (xr 6)) 7 (xt (.bin .add (xr 7) (xi 8)) 8 (xt (.bin .rem (xr 8) (xi 8)) 9 (xtM 9 4 .done)))))) .ret))
theorem ic33_ok : Tryz.f33.body.bind (trC Tryz.prog []) = some ic33 := by kernel_rfl
def fr33 : List FR := [(FR.t 4)]
theorem fr33_ok : fres Tryz.prog Tryz.f33.results.toList = some fr33 := by kernel_rfl
def ic62 : IC := (xR (xt (.mv (xi 0)) 2 .done) (.seq (xR (xtM 0 3 (xt (.bin .lss (xr 3) (xi 0)) 4 .done)) (.cond (xr 4) (xR (xt (.mv (xi (-1))) 2 .done) .ret) .skip)) (xR (xtM 0 5 (xt (.bin .rem (xr 5) (xi 8)) 6 (xtM 6 2 .done))) .ret)))
theorem ic62_ok : Tryz.f62.body.bind (trC Tryz.prog []) = some ic62 := by kernel_rfl
def fr62 : List FR := [(FR.t 2)]
theorem fr62_ok : fres Tryz.prog Tryz.f62.results.toList = some fr62 := by kernel_rfl
def ic169 : IC := (xR (xt (.mv (xi 0)) 2 .done) (.seq (xR (xtM 0 3 (xt (.bin .lss (xr 3) (xi 0)) 4 .done)) (.cond (xr 4) (xR (xt (.mv (xi (-1))) 2 .done) .ret) .skip)) (xR (xtM 0 5 (xt (.bin .rem (xr 5) (xi 8)) 6 (xtM 6 2 .done))) .ret)))
theorem ic169_ok : Tryz.f169.body.bind (trC Tryz.prog []) = some ic169 := by kernel_rfl
def fr169 : List FR := [(FR.t 2)]
theorem fr169_ok : fres Tryz.prog Tryz.f169.results.toList = some fr169 := by kernel_rfl
def ic175 : IC := (xR (xt (.mv (xi 0)) 2 .done) (xR (xtM 0 3 (xt (.bin .add (xr 3) (xi 1)) 4 (xt (.bin .rem (xr 4) (xi 8)) 5 (xtM 5 2 .done)))) .ret))
theorem ic175_ok : Tryz.f175.body.bind (trC Tryz.prog []) = some ic175 := by kernel_rfl
def fr175 : List FR := [(FR.t 2)]
theorem fr175_ok : fres Tryz.prog Tryz.f175.results.toList = some fr175 := by kernel_rfl
def ic150 : IC := (xR (xt (.mv (xi 0)) 2 .done) (xR (xtM 0 3 (xt (.bin .add (xr 3) (xi 1)) 4 (xt (.bin .rem (xr 4) (xi 8)) 5 (xtM 5 2 .done)))) .ret))
theorem ic150_ok : Tryz.f150.body.bind (trC Tryz.prog []) = some ic150 := by kernel_rfl
def fr150 : List FR := [(FR.t 2)]
theorem fr150_ok : fres Tryz.prog Tryz.f150.results.toList = some fr150 := by kernel_rfl
def ic180 : IC := (xR (xt (.mv (xi 0)) 4 .done) (.seq (xR (xtM 0 5 (xt (.call 84 [xr 5, (xi 0), (xi 7)]) 6 (xtT 6 7 (xtM 7 8 (xG (.mv (xr 1)) 9 8 false (xG (.call 84 [xr 9, (xi 0), (xi 7)]) 10 8 false (xG (.not (xr 10)) 11 8 false (xt (.pick (xr 8) (xb true) (xr 11)) 12 .done)))))))) (.cond (xr 12) (xR (xt (.mv (xi (-1))) 4 .done) .ret) .skip)) (xR (xtM 1 13 (xtM 0 14 (xt (.bin .sub (xr 13) (xr 14)) 15 (xt (.bin .add (xr 15) (xi 8)) 16 (xt (.bin .rem (xr 16) (xi 8)) 17 (xtM 17 4 .done)))))) .ret)))
theorem ic180_ok : Tryz.f180.body.bind (trC Tryz.prog []) = some ic180 := by kernel_rfl
def fr180 : List FR := [(FR.t 4)]
theorem fr180_ok : fres Tryz.prog Tryz.f180.results.toList = some fr180 := by kernel_rfl
def ic61 : IC := (xR (xt (.mv (xi 0)) 2 .done) (.seq (xR (xtM 0 3 .done) (.cond (xr 3) (xR (xt (.mv (xi 1)) 2 .done) .ret) .skip)) (xR (xt (.mv (xi 0)) 2 .done) .ret)))
theorem ic61_ok : Tryz.f61.body.bind (trC Tryz.prog []) = some ic61 := by kernel_rfl
def fr61 : List FR := [(FR.t 2)]
theorem fr61_ok : fres Tryz.prog Tryz.f61.results.toList = some fr61 := by kernel_rfl
def ic112 : IC := (xR (xt (.mv (xi 0)) 2 .done) (.seq (xR (xtM 0 3 .done) (.cond (xr 3) (xR (xt (.mv (xi 1)) 2 .done) .ret) .skip)) (xR (xt (.mv (xi 0)) 2 .done) .ret)))
theorem ic112_ok : Tryz.f112.body.bind (trC Tryz.prog []) = some ic112 := by kernel_rfl
def fr112 : List FR := [(FR.t 2)]
theorem fr112_ok : fres Tryz.prog Tryz.f112.results.toList = some fr112 := by kernel_rfl
def ic163 : IC := (xR (xt (.mv (xi 0)) 2 .done) (.seq (xR (xtM 0 3 .done) (.cond (xr 3) (xR (xt (.mv (xi 2)) 2 .done) .ret) .skip)) (xR (xt (.mv (xi 0)) 2 .done) .ret)))
theorem ic163_ok : Tryz.f163.body.bind (trC Tryz.prog []) = some ic163 := by kernel_rfl
def fr163 : List FR := [(FR.t 2)]
theorem fr163_ok : fres Tryz.prog Tryz.f163.results.toList = some fr163 := by kernel_rfl
def ic100 : IC := (xR (xt (.mv (xb false)) 6 .done) (xR (xtM 2 8 (xtL 8 9 (xtM 9 7 .done))) (.seq (xR (xtM 0 10 .done) (.block 0 (xR (xt (.bin .eql (xr 10) (xi 0)) 12 (xtM 12 11 .done)) (.cond (xr 11) (xR (xtM 7 13 (xt (.bin .leq (xr 13) (xi 8)) 14 (xtM 14 15 (xG (.mv (xr 1)) 16 15 true (xG (.mv (xr 7)) 17 15 true (xG (.bin .eql (xr 16) (xr 17)) 18 15 true (xt (.pick (xr 15) (xr 18) (xb false)) 19 (xtM 19 6 .done)))))))) .ret) (xR (xt (.bin .eql (xr 10) (xi 1)) 21 (xtM 21 20 .done)) (.cond (xr 20) (xR (xtM 7 22 (xt (.call 34 [xr 22, (xi 1), (xi 8)]) 23 (xtM 23 24 (xG (.mv (xr 1)) 25 24 true (xG (.mv (xr 7)) 26 24 true (xG (.bin .add (xr 26) (xi 1)) 27 24 true (xG (.call 34 [xr 25, xr 27, (xi 24)]) 28 24 true (xt (.pick (xr 24) (xr 28) (xb false)) 29 (xtM 29 6 .done))))))))) .ret) (.seq (xR (xt (.bin .eql (xr 10) (xi 2)) 31 (xtM 31 30 .done)) (.cond (xr 30) .skip (xQ (xt (.bin .eql (xr 10) (xi 3)) 32 (xtM 32 30 .done))))) (.cond (xr 30) (xR (xtM 7 33 (xt (.call 34 [xr 33, (xi 1), (xi 8)]) 34 (xtM 34 35 (xG (.mv (xr 1)) 36 35 true (xG (.bin .eql (xr 36) (xi 0)) 37 35 true (xt (.pick (xr 35) (xr 37) (xb false)) 38 (xtM 38 6 .done))))))) .ret) .skip)))))))) (xR (xt (.mv (xb false)) 6 .done) .ret))))
theorem ic100_ok : Tryz.f100.body.bind (trC Tryz.prog []) = some ic100 := by kernel_rfl
def fr100 : List FR := [(FR.t 6)]
theorem fr100_ok : fres Tryz.prog Tryz.f100.results.toList = some fr100 := by kernel_rfl
def ic104 : IC := (xR (xt (.box 63 (xr 0)) 1 (xt (.mv (xb false)) 2 .done)) (xR (xtF 1 0 3 (xtO 3 4 (xtF 1 1 5 (xtO 5 6 (xtF 1 2 7 (xtO 7 8 (xt (.call 100 [xr 4, xr 6, xr 8]) 9 (xtM 9 2 .done)))))))) .ret))
theorem ic104_ok : Tryz.f104.body.bind (trC Tryz.prog []) = some ic104 := by kernel_rfl
def fr104 : List FR := [(FR.t 2)]
theorem fr104_ok : fres Tryz.prog Tryz.f104.results.toList = some fr104 := by kernel_rfl
def ic146 : IC := (xR (xt (.box 52 (xr 0)) 1 (xt (.mv (xb false)) 2 .done)) (.seq (xR (xtF 1 6 3 (xtO 3 4 (xt (.call 84 [xr 4, (xi 0), (xi 3)]) 5 (xtT 5 6 (xtM 6 7 (xG (.fad (xr 1) 8) 8 7 false (xG (.ld (xr 8) 1 false) 9 7 false (xG (.len (xr 9)) 10 7 false (xG (.bin .eql (xr 10) (xi 0)) 11 7 false (xG (.mv (xr 11)) 12 7 false (xG (.fad (xr 1) 7) 13 12 true (xG (.ld (xr 13) 1 false) 14 12 true (xG (.bin .neq (xr 14) (xi 0)) 15 12 true (xG (.pick (xr 12) (xr 15) (xb false)) 16 7 false (xt (.pick (xr 7) (xb true) (xr 16)) 17 (xtM 17 18 (xG (.fad (xr 1) 8) 19 18 false (xG (.ld (xr 19) 1 false) 20 18 false (xG (.len (xr 20)) 21 18 false (xG (.bin .gtr (xr 21) (xi 8)) 22 18 false (xt (.pick (xr 18) (xb true) (xr 22)) 23 .done))))))))))))))))))))) (.cond (xr 23) (xR (xt (.mv (xb false)) 2 .done) .ret) .skip)) (.seq (xR (xtF 1 6 24 (xtO 24 25 .done)) (.block 0 (xR (xt (.bin .eql (xr 25) (xi 0)) 27 (xtM 27 26 .done)) (.cond (xr 26) (xR (xtF 1 7 28 (xtO 28 29 (xtF 1 8 30 (xtO 30 31 (xtL 31 32 (xt (.bin .eql (xr 29) (xr 32)) 33 (xtM 33 2 .done))))))) .ret) (xR (xt (.bin .eql (xr 25) (xi 1)) 35 (xtM 35 34 .done)) (.cond (xr 34) (xR (xtF 1 7 36 (xtO 36 37 (xtF 1 8 38 (xtO 38 39 (xtL 39 40 (xt (.bin .add (xr 40) (xi 1)) 41 (xt (.call 84 [xr 37, xr 41, (xi 24)]) 42 (xtM 42 43 (xG (.fad (xr 1) 8) 44 43 true (xG (.ld (xr 44) 1 false) 45 43 true (xG (.len (xr 45)) 46 43 true (xG (.bin .gtr (xr 46) (xi 0)) 47 43 true (xt (.pick (xr 43) (xr 47) (xb false)) 48 (xtM 48 2 .done)))))))))))))) .ret) .skip)))))) (xR (xtF 1 7 49 (xtO 49 50 (xt (.bin .eql (xr 50) (xi 0)) 51 (xtM 51 52 (xG (.fad (xr 1) 8) 53 52 true (xG (.ld (xr 53) 1 false) 54 52 true (xG (.len (xr 54)) 55 52 true (xG (.bin .gtr (xr 55) (xi 0)) 56 52 true (xt (.pick (xr 52) (xr 56) (xb false)) 57 (xtM 57 2 .done)))))))))) .ret))))
theorem ic146_ok : Tryz.f146.body.bind (trC Tryz.prog []) = some ic146 := by kernel_rfl
def fr146 : List FR := [(FR.t 2)]
theorem fr146_ok : fres Tryz.prog Tryz.f146.results.toList = some fr146 := by kernel_rfl
def ic64 : IC := (xR (xt (.box 40 (xr 0)) 1 (xt (.mv (xb false)) 2 .done)) (xR (xtF 1 0 3 (xtO 3 4 (xt (.bin .eql (xr 4) (xi 0)) 5 (xtM 5 6 (xG (.fad (xr 1) 1) 7 6 true (xG (.ld (xr 7) 1 false) 8 6 true (xG (.len (xr 8)) 9 6 true (xG (.bin .eql (xr 9) (xi 0)) 10 6 true (xt (.pick (xr 6) (xr 10) (xb false)) 11 (xtM 11 12 (xG (.fad (xr 1) 0) 13 12 false (xG (.ld (xr 13) 1 false) 14 12 false (xG (.call 34 [xr 14, (xi 2), (xi 24)]) 15 12 false (xG (.mv (xr 15)) 16 12 false (xG (.fad (xr 1) 1) 17 16 true (xG (.ld (xr 17) 1 false) 18 16 true (xG (.len (xr 18)) 19 16 true (xG (.fad (xr 1) 0) 20 16 true (xG (.ld (xr 20) 1 false) 21 16 true (xG (.bin .sub (xr 21) (xi 1)) 22 16 true (xG (.call 34 [xr 19, (xi 1), xr 22]) 23 16 true (xG (.pick (xr 16) (xr 23) (xb false)) 24 12 false (xt (.pick (xr 12) (xb true) (xr 24)) 25 (xtM 25 2 .done)))))))))))))))))))))))) .ret))
theorem ic64_ok : Tryz.f64.body.bind (trC Tryz.prog []) = some ic64 := by kernel_rfl
def fr64 : List FR := [(FR.t 2)]
theorem fr64_ok : fres Tryz.prog Tryz.f64.results.toList = some fr64 := by kernel_rfl
def ic170 : IC := (xR (xt (.box 40 (xr 0)) 1 (xt (.mv (xb false)) 2 .done)) (xR (xtF 1 0 3 (xtO 3 4 (xt (.bin .eql (xr 4) (xi 0)) 5 (xtM 5 6 (xG (.fad (xr 1) 1) 7 6 true (xG (.ld (xr 7) 1 false) 8 6 true (xG (.len (xr 8)) 9 6 true (xG (.bin .eql (xr 9) (xi 0)) 10 6 true (xt (.pick (xr 6) (xr 10) (xb false)) 11 (xtM 11 12 (xG (.fad (xr 1) 0) 13 12 false (xG (.ld (xr 13) 1 false) 14 12 false (xG (.call 84 [xr 14, (xi 2), (xi 24)]) 15 12 false (xG (.mv (xr 15)) 16 12 false (xG (.fad (xr 1) 1) 17 16 true (xG (.ld (xr 17) 1 false) 18 16 true (xG (.len (xr 18)) 19 16 true (xG (.fad (xr 1) 0) 20 16 true (xG (.ld (xr 20) 1 false) 21 16 true (xG (.bin .sub (xr 21) (xi 1)) 22 16 true (xG (.call 84 [xr 19, (xi 1), xr 22]) 23 16 true (xG (.pick (xr 16) (xr 23) (xb false)) 24 12 false (xt (.pick (xr 12) (xb true) (xr 24)) 25 (xtM 25 2 .done)))))))))))))))))))))))) .ret))
theorem ic170_ok : Tryz.f170.body.bind (trC Tryz.prog []) = some ic170 := by kernel_rfl
def fr170 : List FR := [(FR.t 2)]
theorem fr170_ok : fres Tryz.prog Tryz.f170.results.toList = some fr170 := by kernel_rfl
set_option maxHeartbeats 1000000
theorem wrap_in {n : Int} (h0 : -9223372036854775808 ≤ n) (h1 : n ≤ 9223372036854775807) : IntKind.i64.wrap n = n := by rw [IntKind.wrap_i64]; omega
theorem atyB : AppTy Tryz.prog 22 5 1 := AppTy.of (by kernel_rfl)
theorem scloneB (A : Option Addr) (n c : Nat) (cs : List Value) (z : Zc) (hr : RdAt z A 0 cs) (hl : cs.length = n * 1) (h1 : ∀ u ∈ cs, u.oneCell' = true) (hb : n ≤ 1000000000) :
    PSpec Tryz.prog 59 [.slice A n c] z fun v z' => ∃ A' c', v = .slice A' n c' ∧ n ≤ c' ∧ RdAt z' A' 0 cs := by
  (refine pspec_enter Tryz.func59 ic59_ok fr59_ok Tryz.ntmps59 ?_; simp only [seval, go_sem, ic59, fr59])
  refine gO ?_
  refine condI.split (fun h => ?_) (fun h => ?_)
  · refine gO ?_
    (first|refine fN ?_|exact fZ)
    have hn : cs = [] := by
      cases A with
      | none => rcases cs with _ | ⟨u, cs⟩
                · rfl
                · obtain ⟨b, o, e, _⟩ := hr (by simp); cases e
      | some a => simp at h
    subst hn
    have : n = 0 := by simp at hl; omega
    subst this
    exact ⟨_, 0, rfl, Nat.le_refl _, RdAt.nil _ _ _⟩
  · refine gO ?_
    refine appM.toT (appM_empty 99 atyB rfl (.inr ⟨0, 0, rfl⟩) rfl hr hl h1 hb fun A' c' z' hz hc' hr' => ?_)
    simp only [seval, go_sem]
    refine gO ?_
    (first|refine fN ?_|exact fZ)
    exact ⟨A', c', rfl, hc', hr'⟩
theorem sclipB (A : Option Addr) (n c : Nat) (z : Zc) (hc : n ≤ c) (hb : n ≤ 1000000000) : PSpec Tryz.prog 58 [.slice A n c] z fun v z' => v = .slice A n n := by
  (refine pspec_enter Tryz.func58 ic58_ok fr58_ok Tryz.ntmps58 ?_; simp only [seval, go_sem, ic58, fr58])
  refine gO ?_
  refine ⟨by omega, ?_⟩
  refine gO ?_
  (first|refine fN ?_|exact fZ)
theorem cloneB (A : Option Addr) (n c : Nat) (cs : List Value) (z : Zc) (hr : RdAt z A 0 cs) (hl : cs.length = n * 1) (h1 : ∀ u ∈ cs, u.oneCell' = true) (hb : n ≤ 1000000000) :
    PSpec Tryz.prog 29 [.slice A n c] z fun v z' => ∃ A', v = .slice A' n n ∧ RdAt z' A' 0 cs := by
  (refine pspec_enter Tryz.func29 ic29_ok fr29_ok Tryz.ntmps29 ?_; simp only [seval, go_sem, ic29, fr29])
  refine gO ?_
  refine tT ?_; refine callP (scloneB A n c cs z hr hl h1 hb) rfl rfl ?_; rintro v z1 hz1 ⟨A1, c1, rfl, hc1, hr1⟩; refine gO ?_
  refine tT ?_; refine callP (sclipB A1 n c1 z1 hc1 hb) rfl rfl ?_; rintro v z2 hz2 rfl; refine gO ?_
  (first|refine fN ?_|exact fZ)
  exact ⟨A1, rfl, hr1.mono hz2⟩
theorem atyP : AppTy Tryz.prog 36 63 3 := AppTy.of (by kernel_rfl)
theorem scloneP (A : Option Addr) (n c : Nat) (cs : List Value) (z : Zc) (hr : RdAt z A 0 cs) (hl : cs.length = n * 3) (h1 : ∀ u ∈ cs, u.oneCell' = true) (hb : n ≤ 1000000000) :
    PSpec Tryz.prog 166 [.slice A n c] z fun v z' => ∃ A' c', v = .slice A' n c' ∧ n ≤ c' ∧ RdAt z' A' 0 cs := by
  (refine pspec_enter Tryz.func166 ic166_ok fr166_ok Tryz.ntmps166 ?_; simp only [seval, go_sem, ic166, fr166])
  refine gO ?_
  refine condI.split (fun h => ?_) (fun h => ?_)
  · refine gO ?_
    (first|refine fN ?_|exact fZ)
    have hn : cs = [] := by
      cases A with
      | none => rcases cs with _ | ⟨u, cs⟩
                · rfl
                · obtain ⟨b, o, e, _⟩ := hr (by simp); cases e
      | some a => simp at h
    subst hn
    have : n = 0 := by simp at hl; omega
    subst this
    exact ⟨_, 0, rfl, Nat.le_refl _, RdAt.nil _ _ _⟩
  · refine gO ?_
    refine appM.toT (appM_empty 99 atyP rfl (.inr ⟨0, 0, rfl⟩) rfl hr hl h1 hb fun A' c' z' hz hc' hr' => ?_)
    simp only [seval, go_sem]
    refine gO ?_
    (first|refine fN ?_|exact fZ)
    exact ⟨A', c', rfl, hc', hr'⟩
theorem sclipP (A : Option Addr) (n c : Nat) (z : Zc) (hc : n ≤ c) (hb : n ≤ 1000000000) : PSpec Tryz.prog 165 [.slice A n c] z fun v z' => v = .slice A n n := by
  (refine pspec_enter Tryz.func165 ic165_ok fr165_ok Tryz.ntmps165 ?_; simp only [seval, go_sem, ic165, fr165])
  refine gO ?_
  refine ⟨by omega, ?_⟩
  refine gO ?_
  (first|refine fN ?_|exact fZ)
theorem cloneP (A : Option Addr) (n c : Nat) (cs : List Value) (z : Zc) (hr : RdAt z A 0 cs) (hl : cs.length = n * 3) (h1 : ∀ u ∈ cs, u.oneCell' = true) (hb : n ≤ 1000000000) :
    PSpec Tryz.prog 145 [.slice A n c] z fun v z' => ∃ A', v = .slice A' n n ∧ RdAt z' A' 0 cs := by
  (refine pspec_enter Tryz.func145 ic145_ok fr145_ok Tryz.ntmps145 ?_; simp only [seval, go_sem, ic145, fr145])
  refine gO ?_
  refine tT ?_; refine callP (scloneP A n c cs z hr hl h1 hb) rfl rfl ?_; rintro v z1 hz1 ⟨A1, c1, rfl, hc1, hr1⟩; refine gO ?_
  refine tT ?_; refine callP (sclipP A1 n c1 z1 hc1 hb) rfl rfl ?_; rintro v z2 hz2 rfl; refine gO ?_
  (first|refine fN ?_|exact fZ)
  exact ⟨A1, rfl, hr1.mono hz2⟩
theorem sclipM (A : Option Addr) (n c : Nat) (z : Zc) (hc : n ≤ c) (hb : n ≤ 1000000000) : PSpec Tryz.prog 107 [.slice A n c] z fun v z' => v = .slice A n n := by
  (refine pspec_enter Tryz.func107 ic107_ok fr107_ok Tryz.ntmps107 ?_; simp only [seval, go_sem, ic107, fr107])
  refine gO ?_
  refine ⟨by omega, ?_⟩
  refine gO ?_
  (first|refine fN ?_|exact fZ)
theorem cloneBy (l : List Int) (v : Value) (z : Zc) (h : By z l v) (hb : l.length ≤ 1000000000) : PSpec Tryz.prog 29 [v] z fun v' z' => ∃ A', v' = .slice A' l.length l.length ∧ Bys l ∧ RdAt z' A' 0 (bc l) := by
  obtain ⟨A, c, rfl, hc, hB, hr⟩ := h.form
  exact (cloneB A l.length c (bc l) z hr (by simp) (by intro u hu; obtain ⟨x, _, rfl⟩ := List.mem_map.1 hu; rfl) hb).mono fun v' z' hz ⟨A', h1, h2⟩ => ⟨A', h1, hB, h2⟩
theorem in_i (n lo hi : Int) (z : Zc) : PSpec Tryz.prog 34 [.int .i64 n, .int .i64 lo, .int .i64 hi] z fun v z' => v = .bool (inB n lo hi) ∧ z = z' := by
  (refine pspec_enter Tryz.func34 ic34_ok fr34_ok Tryz.ntmps34 ?_; simp only [seval, go_sem, ic34, fr34])
  refine gO ?_
  (with_reducible refine guardR.split (fun hg => ?_) (fun hg => ?_) <;> (try simp only [hg]) <;> simp only [seval, go_sem]) <;> (refine gO ?_; (first|refine fN ?_|exact fZ)) <;> simp only [and_true] <;> simp at hg <;> simp [inB, hg]
  omega
theorem in_s (n lo hi : Int) (z : Zc) : PSpec Tryz.prog 84 [.int .i64 n, .int .i64 lo, .int .i64 hi] z fun v z' => v = .bool (inB n lo hi) ∧ z = z' := by
  (refine pspec_enter Tryz.func84 ic84_ok fr84_ok Tryz.ntmps84 ?_; simp only [seval, go_sem, ic84, fr84])
  refine gO ?_
  (with_reducible refine guardR.split (fun hg => ?_) (fun hg => ?_) <;> (try simp only [hg]) <;> simp only [seval, go_sem]) <;> (refine gO ?_; (first|refine fN ?_|exact fZ)) <;> simp only [and_true] <;> simp at hg <;> simp [inB, hg]
  omega
theorem isnum (n : Int) (z : Zc) : PSpec Tryz.prog 32 [.int .i64 n] z fun v z' => v = .bool (isNum n) ∧ z = z' := by
  (refine pspec_enter Tryz.func32 ic32_ok fr32_ok Tryz.ntmps32 ?_; simp only [seval, go_sem, ic32, fr32])
  refine gO ?_
  refine tT ?_; refine callP (in_i n 0 7 z) rfl rfl ?_; rintro _ _ - ⟨rfl, rfl⟩; refine gO ?_
  (first|refine fN ?_|exact fZ)
  simp [isNum]
theorem cfgok_i (c : Cfg) (z : Zc) : PSpec Tryz.prog 26 [vCfg c] z fun v z' => v = .bool (cfgOk c) ∧ z = z' := by
  (refine pspec_enter Tryz.func26 ic26_ok fr26_ok Tryz.ntmps26 ?_; simp only [seval, go_sem, ic26, fr26])
  refine gO ?_
  refine tT ?_; refine callP (in_i c.mode 1 2 z) rfl rfl ?_; rintro _ _ - ⟨rfl, rfl⟩; refine gO ?_
  (with_reducible refine guardR.split (fun hg => ?_) (fun hg => ?_)); (rotate_left); (focus ((try simp only [hg]); simp only [seval, go_sem]; (refine gO ?_; (first|refine fN ?_|exact fZ); simp_all [cfgOk]))); (try simp only [hg]); refine gO ?_
  refine tT ?_; refine callP (in_i c.win 1 4 z) rfl rfl ?_; rintro _ _ - ⟨rfl, rfl⟩; refine gO ?_
  (with_reducible refine guardR.split (fun hg => ?_) (fun hg => ?_)); (rotate_left); (focus ((try simp only [hg]); simp only [seval, go_sem]; (refine gO ?_; (first|refine fN ?_|exact fZ); simp_all [cfgOk]))); (try simp only [hg]); refine gO ?_
  refine tT ?_; refine callP (in_i c.mps 1 8 z) rfl rfl ?_; rintro _ _ - ⟨rfl, rfl⟩; refine gO ?_
  (with_reducible refine guardR.split (fun hg => ?_) (fun hg => ?_)); (rotate_left); (focus ((try simp only [hg]); simp only [seval, go_sem]; (refine gO ?_; (first|refine fN ?_|exact fZ); simp_all [cfgOk]))); (try simp only [hg]); refine gO ?_
  refine tT ?_; refine callP (in_i c.mtu 1 24 z) rfl rfl ?_; rintro _ _ - ⟨rfl, rfl⟩; refine gO ?_
  (with_reducible refine guardR.split (fun hg => ?_) (fun hg => ?_)); (rotate_left); (focus ((try simp only [hg]); simp only [seval, go_sem]; (refine gO ?_; (first|refine fN ?_|exact fZ); simp_all [cfgOk]))); (try simp only [hg]); refine gO ?_
  refine tT ?_; refine callP (in_i c.tri 1 5 z) rfl rfl ?_; rintro _ _ - ⟨rfl, rfl⟩; refine gO ?_
  (refine gO ?_; (first|refine fN ?_|exact fZ); simp_all [cfgOk])
theorem cfgok_s (c : Cfg) (z : Zc) : PSpec Tryz.prog 80 [vCfg c] z fun v z' => v = .bool (cfgOk c) ∧ z = z' := by
  (refine pspec_enter Tryz.func80 ic80_ok fr80_ok Tryz.ntmps80 ?_; simp only [seval, go_sem, ic80, fr80])
  refine gO ?_
  refine tT ?_; refine callP (in_s c.mode 1 2 z) rfl rfl ?_; rintro _ _ - ⟨rfl, rfl⟩; refine gO ?_
  (with_reducible refine guardR.split (fun hg => ?_) (fun hg => ?_)); (rotate_left); (focus ((try simp only [hg]); simp only [seval, go_sem]; (refine gO ?_; (first|refine fN ?_|exact fZ); simp_all [cfgOk]))); (try simp only [hg]); refine gO ?_
  refine tT ?_; refine callP (in_s c.win 1 4 z) rfl rfl ?_; rintro _ _ - ⟨rfl, rfl⟩; refine gO ?_
  (with_reducible refine guardR.split (fun hg => ?_) (fun hg => ?_)); (rotate_left); (focus ((try simp only [hg]); simp only [seval, go_sem]; (refine gO ?_; (first|refine fN ?_|exact fZ); simp_all [cfgOk]))); (try simp only [hg]); refine gO ?_
  refine tT ?_; refine callP (in_s c.mps 1 8 z) rfl rfl ?_; rintro _ _ - ⟨rfl, rfl⟩; refine gO ?_
  (with_reducible refine guardR.split (fun hg => ?_) (fun hg => ?_)); (rotate_left); (focus ((try simp only [hg]); simp only [seval, go_sem]; (refine gO ?_; (first|refine fN ?_|exact fZ); simp_all [cfgOk]))); (try simp only [hg]); refine gO ?_
  refine tT ?_; refine callP (in_s c.mtu 1 24 z) rfl rfl ?_; rintro _ _ - ⟨rfl, rfl⟩; refine gO ?_
  (with_reducible refine guardR.split (fun hg => ?_) (fun hg => ?_)); (rotate_left); (focus ((try simp only [hg]); simp only [seval, go_sem]; (refine gO ?_; (first|refine fN ?_|exact fZ); simp_all [cfgOk]))); (try simp only [hg]); refine gO ?_
  refine tT ?_; refine callP (in_s c.tri 1 5 z) rfl rfl ?_; rintro _ _ - ⟨rfl, rfl⟩; refine gO ?_
  (refine gO ?_; (first|refine fN ?_|exact fZ); simp_all [cfgOk])
theorem numnext_i (n : Int) (z : Zc) (h : 0 ≤ n ∧ n ≤ 1000000) : PSpec Tryz.prog 175 [.int .i64 n] z fun v z' => v = .int .i64 (numNext n) ∧ z = z' := by
  (refine pspec_enter Tryz.func175 ic175_ok fr175_ok Tryz.ntmps175 ?_; simp only [seval, go_sem, ic175, fr175])
  refine gO ?_
  (first|refine fN ?_|exact fZ)
  rw [wrap_in (by omega) (by omega)]
  simp [numNext]
theorem numof_i (n : Int) (z : Zc) (h : 0 ≤ n ∧ n ≤ 1000000) : PSpec Tryz.prog 62 [.int .i64 n] z fun v z' => v = .int .i64 (numOf n) ∧ z = z' := by
  (refine pspec_enter Tryz.func62 ic62_ok fr62_ok Tryz.ntmps62 ?_; simp only [seval, go_sem, ic62, fr62])
  refine gO ?_
  (with_reducible refine condI.split (fun hg => ?_) (fun hg => ?_) <;> (try simp only [hg]) <;> (try simp only [seval, go_sem]))
  · simp at hg; omega
  · refine gO ?_
    (first|refine fN ?_|exact fZ)
    rw [Int.tmod_eq_emod_of_nonneg (by omega)]
    simp [numOf]; omega
theorem numnext_s (n : Int) (z : Zc) (h : 0 ≤ n ∧ n ≤ 1000000) : PSpec Tryz.prog 150 [.int .i64 n] z fun v z' => v = .int .i64 (numNext n) ∧ z = z' := by
  (refine pspec_enter Tryz.func150 ic150_ok fr150_ok Tryz.ntmps150 ?_; simp only [seval, go_sem, ic150, fr150])
  refine gO ?_
  (first|refine fN ?_|exact fZ)
  rw [wrap_in (by omega) (by omega)]
  simp [numNext]
theorem numof_s (n : Int) (z : Zc) (h : 0 ≤ n ∧ n ≤ 1000000) : PSpec Tryz.prog 169 [.int .i64 n] z fun v z' => v = .int .i64 (numOf n) ∧ z = z' := by
  (refine pspec_enter Tryz.func169 ic169_ok fr169_ok Tryz.ntmps169 ?_; simp only [seval, go_sem, ic169, fr169])
  refine gO ?_
  (with_reducible refine condI.split (fun hg => ?_) (fun hg => ?_) <;> (try simp only [hg]) <;> (try simp only [seval, go_sem]))
  · simp at hg; omega
  · refine gO ?_
    (first|refine fN ?_|exact fZ)
    rw [Int.tmod_eq_emod_of_nonneg (by omega)]
    simp [numOf]; omega
theorem far_i (a b : Int) (z : Zc) (h : 0 ≤ a ∧ a ≤ 1000000) (h : 0 ≤ b ∧ b ≤ 1000000) (h : a - 8 ≤ b) : PSpec Tryz.prog 33 [.int .i64 a, .int .i64 b] z fun v z' => v = .int .i64 (far a b) ∧ z = z' := by
  (refine pspec_enter Tryz.func33 ic33_ok fr33_ok Tryz.ntmps33 ?_; simp only [seval, go_sem, ic33, fr33])
  refine gO ?_
  (first|refine fN ?_|exact fZ)
  rw [wrap_in (n := b - a) (by omega) (by omega)]
  rw [wrap_in (by omega) (by omega)]
  rw [Int.tmod_eq_emod_of_nonneg (by omega)]
  simp [far]
theorem numfar_s (a b : Int) (z : Zc) : PSpec Tryz.prog 180 [.int .i64 a, .int .i64 b] z fun v z' => v = .int .i64 (numFar a b) ∧ z = z' := by
  (refine pspec_enter Tryz.func180 ic180_ok fr180_ok Tryz.ntmps180 ?_; simp only [seval, go_sem, ic180, fr180])
  (try simp only [seval, go_sem]); repeat' (first | (with_reducible refine vsI.id ?_; (try simp only [seval, go_sem])) | (with_reducible refine vcI_cond ?_; (try simp only [seval, go_sem])) | (with_reducible refine guardR.split (fun hg => ?_) (fun hg => ?_) <;> (try simp only [hg]) <;> simp only [seval, go_sem]) | (with_reducible refine condI.split (fun hg => ?_) (fun hg => ?_) <;> (try simp only [hg]) <;> (try simp only [seval, go_sem])) | (with_reducible refine callM.toT ?_) | (refine callP (in_s _ _ _ _) rfl rfl ?_; rintro _ _ - ⟨rfl, rfl⟩; (try simp only [seval, go_sem])))
  · (first|refine fN ?_|exact fZ); simp_all [numFar, isNum]
  · (first|refine fN ?_|exact fZ); simp_all [numFar, isNum]
  · simp only [Bool.not_eq_false'] at *
    have h1 := inB_iff.1 (by assumption : inB a 0 7 = true)
    have h2 := inB_iff.1 (by assumption : inB b 0 7 = true)
    (first|refine fN ?_|exact fZ)
    rw [wrap_in (n := b - a) (by omega) (by omega)]
    rw [wrap_in (by omega) (by omega)]
    rw [Int.tmod_eq_emod_of_nonneg (by omega)]
    simp_all [numFar, isNum, far]
theorem pieceok_i (seg len : Int) (A : Option Addr) (n c : Nat) (z : Zc) (h : n ≤ 1000000000) : PSpec Tryz.prog 100 [.int .i64 seg, .int .i64 len, .slice A n c] z fun v z' => v = .bool (pieceOk seg len n) ∧ z = z' := by
  (refine pspec_enter Tryz.func100 ic100_ok fr100_ok Tryz.ntmps100 ?_; simp only [seval, go_sem, ic100, fr100])
  (try simp only [seval, go_sem]); repeat' (first | (with_reducible refine vsI.id ?_; (try simp only [seval, go_sem])) | (with_reducible refine vcI_cond ?_; (try simp only [seval, go_sem])) | (with_reducible refine guardR.split (fun hg => ?_) (fun hg => ?_) <;> (try simp only [hg]) <;> simp only [seval, go_sem]) | (with_reducible refine condI.split (fun hg => ?_) (fun hg => ?_) <;> (try simp only [hg]) <;> (try simp only [seval, go_sem])) | (with_reducible refine callM.toT ?_) | (refine callP (in_i _ _ _ _) rfl rfl ?_; rintro _ _ - ⟨rfl, rfl⟩; (try simp only [seval, go_sem])))
  all_goals (try ((first|refine fN ?_|exact fZ); (try simp only [inB_iff, inB_no, isNum_iff, beq_iff_eq, decide_eq_true_eq, decide_eq_false_iff_not, beq_eq_false_iff_ne, bne_iff_ne, bne_eq_false_iff_eq, Bool.not_eq_true', Bool.not_eq_false', and_true] at *); (try simp (disch := omega) only [wrap_in, Int.tmod_eq_emod_of_nonneg] at *); (try simp only [and_true]); first | rfl | (simp_all [pieceOk]; done) | (refine congrArg Value.bool (Bool.eq_iff_iff.2 ?_); simp [*, pieceOk, inB_iff]; done) | (refine congrArg Value.bool (Bool.eq_iff_iff.2 ?_); simp [*, pieceOk, inB_iff]; omega) | (simp_all [pieceOk]; omega)))
theorem partok_i (p : Part) (A : Option Addr) (n c : Nat) (z : Zc) (h : p.data.length ≤ 1000000000) (hn : p.data.length = n) : PSpec Tryz.prog 104 [vPart p (.slice A n c)] z fun v z' => v = .bool (partOk p) ∧ z = z' := by
  (refine pspec_enter Tryz.func104 ic104_ok fr104_ok Tryz.ntmps104 ?_; simp only [seval, go_sem, ic104, fr104])
  (try simp only [seval, go_sem]); repeat' (first | (with_reducible refine vsI.id ?_; (try simp only [seval, go_sem])) | (with_reducible refine vcI_cond ?_; (try simp only [seval, go_sem])) | (with_reducible refine guardR.split (fun hg => ?_) (fun hg => ?_) <;> (try simp only [hg]) <;> simp only [seval, go_sem]) | (with_reducible refine condI.split (fun hg => ?_) (fun hg => ?_) <;> (try simp only [hg]) <;> (try simp only [seval, go_sem])) | (with_reducible refine callM.toT ?_) | (refine callP (pieceok_i _ _ _ _ _ _ (by omega)) rfl rfl ?_; rintro _ _ - ⟨rfl, rfl⟩; (try simp only [seval, go_sem])))
  all_goals (try ((first|refine fN ?_|exact fZ); (try simp only [inB_iff, inB_no, isNum_iff, beq_iff_eq, decide_eq_true_eq, decide_eq_false_iff_not, beq_eq_false_iff_ne, bne_iff_ne, bne_eq_false_iff_eq, Bool.not_eq_true', Bool.not_eq_false', and_true] at *); (try simp (disch := omega) only [wrap_in, Int.tmod_eq_emod_of_nonneg] at *); (try simp only [and_true]); first | rfl | (simp_all [partOk]; done) | (refine congrArg Value.bool (Bool.eq_iff_iff.2 ?_); simp [*, partOk, inB_iff]; done) | (refine congrArg Value.bool (Bool.eq_iff_iff.2 ?_); simp [*, partOk, inB_iff]; omega) | (simp_all [partOk]; omega)))
theorem joinok_i (j : Join) (A : Option Addr) (c : Nat) (z : Zc) (h : j.got.length ≤ 1000000000) (hj : -1000000000 ≤ j.len) : PSpec Tryz.prog 64 [vJoin j (.slice A j.got.length c)] z fun v z' => v = .bool (joinOk j) ∧ z = z' := by
  (refine pspec_enter Tryz.func64 ic64_ok fr64_ok Tryz.ntmps64 ?_; simp only [seval, go_sem, ic64, fr64])
  (try simp only [seval, go_sem]); repeat' (first | (with_reducible refine vsI.id ?_; (try simp only [seval, go_sem])) | (with_reducible refine vcI_cond ?_; (try simp only [seval, go_sem])) | (with_reducible refine guardR.split (fun hg => ?_) (fun hg => ?_) <;> (try simp only [hg]) <;> simp only [seval, go_sem]) | (with_reducible refine condI.split (fun hg => ?_) (fun hg => ?_) <;> (try simp only [hg]) <;> (try simp only [seval, go_sem])) | (with_reducible refine callM.toT ?_) | (refine callP (in_i _ _ _ _) rfl rfl ?_; rintro _ _ - ⟨rfl, rfl⟩; (try simp only [seval, go_sem])))
  all_goals (first | ((first|refine fN ?_|exact fZ); (try simp only [inB_iff, inB_no, isNum_iff, beq_iff_eq, decide_eq_true_eq, decide_eq_false_iff_not, beq_eq_false_iff_ne, bne_iff_ne, bne_eq_false_iff_eq, Bool.not_eq_true', Bool.not_eq_false', and_true] at *); (try simp (disch := omega) only [wrap_in, Int.tmod_eq_emod_of_nonneg] at *); (try simp only [and_true]); first | rfl | (simp_all [joinOk]; done) | (refine congrArg Value.bool (Bool.eq_iff_iff.2 ?_); simp [*, joinOk, inB_iff]; done) | (refine congrArg Value.bool (Bool.eq_iff_iff.2 ?_); simp [*, joinOk, inB_iff]; omega) | (simp_all [joinOk]; omega)) | ((first|refine fN ?_|exact fZ); (try simp only [inB_iff, inB_no, isNum_iff, beq_iff_eq, decide_eq_true_eq, decide_eq_false_iff_not, beq_eq_false_iff_ne, bne_iff_ne, bne_eq_false_iff_eq, Bool.not_eq_true', Bool.not_eq_false', and_true] at *); (try simp (disch := omega) only [wrap_in, Int.tmod_eq_emod_of_nonneg] at *); (try simp only [and_true]); (refine congrArg Value.bool (Bool.eq_iff_iff.2 ?_)); (simp only [joinOk_iff, JoinI, ← List.length_eq_zero_iff, inB_iff, inB_no, isNum_iff, beq_iff_eq, decide_eq_true_eq, Bool.and_eq_true, Bool.or_eq_true, Bool.false_eq_true, false_iff, true_iff, iff_true, iff_false, Bool.not_eq_true']); omega))
theorem joinok_s (j : Join) (A : Option Addr) (c : Nat) (z : Zc) (h : j.got.length ≤ 1000000000) (hj : -1000000000 ≤ j.len) : PSpec Tryz.prog 170 [vJoin j (.slice A j.got.length c)] z fun v z' => v = .bool (joinOk j) ∧ z = z' := by
  (refine pspec_enter Tryz.func170 ic170_ok fr170_ok Tryz.ntmps170 ?_; simp only [seval, go_sem, ic170, fr170])
  (try simp only [seval, go_sem]); repeat' (first | (with_reducible refine vsI.id ?_; (try simp only [seval, go_sem])) | (with_reducible refine vcI_cond ?_; (try simp only [seval, go_sem])) | (with_reducible refine guardR.split (fun hg => ?_) (fun hg => ?_) <;> (try simp only [hg]) <;> simp only [seval, go_sem]) | (with_reducible refine condI.split (fun hg => ?_) (fun hg => ?_) <;> (try simp only [hg]) <;> (try simp only [seval, go_sem])) | (with_reducible refine callM.toT ?_) | (refine callP (in_s _ _ _ _) rfl rfl ?_; rintro _ _ - ⟨rfl, rfl⟩; (try simp only [seval, go_sem])))
  all_goals (first | ((first|refine fN ?_|exact fZ); (try simp only [inB_iff, inB_no, isNum_iff, beq_iff_eq, decide_eq_true_eq, decide_eq_false_iff_not, beq_eq_false_iff_ne, bne_iff_ne, bne_eq_false_iff_eq, Bool.not_eq_true', Bool.not_eq_false', and_true] at *); (try simp (disch := omega) only [wrap_in, Int.tmod_eq_emod_of_nonneg] at *); (try simp only [and_true]); first | rfl | (simp_all [joinOk]; done) | (refine congrArg Value.bool (Bool.eq_iff_iff.2 ?_); simp [*, joinOk, inB_iff]; done) | (refine congrArg Value.bool (Bool.eq_iff_iff.2 ?_); simp [*, joinOk, inB_iff]; omega) | (simp_all [joinOk]; omega)) | ((first|refine fN ?_|exact fZ); (try simp only [inB_iff, inB_no, isNum_iff, beq_iff_eq, decide_eq_true_eq, decide_eq_false_iff_not, beq_eq_false_iff_ne, bne_iff_ne, bne_eq_false_iff_eq, Bool.not_eq_true', Bool.not_eq_false', and_true] at *); (try simp (disch := omega) only [wrap_in, Int.tmod_eq_emod_of_nonneg] at *); (try simp only [and_true]); (refine congrArg Value.bool (Bool.eq_iff_iff.2 ?_)); (simp only [joinOk_iff, JoinI, ← List.length_eq_zero_iff, inB_iff, inB_no, isNum_iff, beq_iff_eq, decide_eq_true_eq, Bool.and_eq_true, Bool.or_eq_true, Bool.false_eq_true, false_iff, true_iff, iff_true, iff_false, Bool.not_eq_true']); omega))
theorem truth_i (b : Bool) (z : Zc) : PSpec Tryz.prog 61 [.bool b] z fun v z' => v = .int .i64 (bit b) ∧ z = z' := by
  (refine pspec_enter Tryz.func61 ic61_ok fr61_ok Tryz.ntmps61 ?_; simp only [seval, go_sem, ic61, fr61])
  (try simp only [seval, go_sem]); repeat' (first | (with_reducible refine vsI.id ?_; (try simp only [seval, go_sem])) | (with_reducible refine vcI_cond ?_; (try simp only [seval, go_sem])) | (with_reducible refine guardR.split (fun hg => ?_) (fun hg => ?_) <;> (try simp only [hg]) <;> simp only [seval, go_sem]) | (with_reducible refine condI.split (fun hg => ?_) (fun hg => ?_) <;> (try simp only [hg]) <;> (try simp only [seval, go_sem])) | (with_reducible refine callM.toT ?_))
  all_goals ((first|refine fN ?_|exact fZ); (try simp only [inB_iff, inB_no, isNum_iff, beq_iff_eq, decide_eq_true_eq, decide_eq_false_iff_not, beq_eq_false_iff_ne, bne_iff_ne, bne_eq_false_iff_eq, Bool.not_eq_true', Bool.not_eq_false', and_true] at *); (try simp (disch := omega) only [wrap_in, Int.tmod_eq_emod_of_nonneg] at *); (try simp only [and_true]); first | rfl | (simp_all [bit]; done) | (refine congrArg Value.bool (Bool.eq_iff_iff.2 ?_); simp [*, bit, inB_iff]; done) | (refine congrArg Value.bool (Bool.eq_iff_iff.2 ?_); simp [*, bit, inB_iff]; omega) | (simp_all [bit]; omega))
theorem bit_s (b : Bool) (z : Zc) : PSpec Tryz.prog 112 [.bool b] z fun v z' => v = .int .i64 (bit b) ∧ z = z' := by
  (refine pspec_enter Tryz.func112 ic112_ok fr112_ok Tryz.ntmps112 ?_; simp only [seval, go_sem, ic112, fr112])
  (try simp only [seval, go_sem]); repeat' (first | (with_reducible refine vsI.id ?_; (try simp only [seval, go_sem])) | (with_reducible refine vcI_cond ?_; (try simp only [seval, go_sem])) | (with_reducible refine guardR.split (fun hg => ?_) (fun hg => ?_) <;> (try simp only [hg]) <;> simp only [seval, go_sem]) | (with_reducible refine condI.split (fun hg => ?_) (fun hg => ?_) <;> (try simp only [hg]) <;> (try simp only [seval, go_sem])) | (with_reducible refine callM.toT ?_))
  all_goals ((first|refine fN ?_|exact fZ); (try simp only [inB_iff, inB_no, isNum_iff, beq_iff_eq, decide_eq_true_eq, decide_eq_false_iff_not, beq_eq_false_iff_ne, bne_iff_ne, bne_eq_false_iff_eq, Bool.not_eq_true', Bool.not_eq_false', and_true] at *); (try simp (disch := omega) only [wrap_in, Int.tmod_eq_emod_of_nonneg] at *); (try simp only [and_true]); first | rfl | (simp_all [bit]; done) | (refine congrArg Value.bool (Bool.eq_iff_iff.2 ?_); simp [*, bit, inB_iff]; done) | (refine congrArg Value.bool (Bool.eq_iff_iff.2 ?_); simp [*, bit, inB_iff]; omega) | (simp_all [bit]; omega))
theorem gowait_i (b : Bool) (z : Zc) : PSpec Tryz.prog 163 [.bool b] z fun v z' => v = .int .i64 (goWait b) ∧ z = z' := by
  (refine pspec_enter Tryz.func163 ic163_ok fr163_ok Tryz.ntmps163 ?_; simp only [seval, go_sem, ic163, fr163])
  (try simp only [seval, go_sem]); repeat' (first | (with_reducible refine vsI.id ?_; (try simp only [seval, go_sem])) | (with_reducible refine vcI_cond ?_; (try simp only [seval, go_sem])) | (with_reducible refine guardR.split (fun hg => ?_) (fun hg => ?_) <;> (try simp only [hg]) <;> simp only [seval, go_sem]) | (with_reducible refine condI.split (fun hg => ?_) (fun hg => ?_) <;> (try simp only [hg]) <;> (try simp only [seval, go_sem])) | (with_reducible refine callM.toT ?_))
  all_goals ((first|refine fN ?_|exact fZ); (try simp only [inB_iff, inB_no, isNum_iff, beq_iff_eq, decide_eq_true_eq, decide_eq_false_iff_not, beq_eq_false_iff_ne, bne_iff_ne, bne_eq_false_iff_eq, Bool.not_eq_true', Bool.not_eq_false', and_true] at *); (try simp (disch := omega) only [wrap_in, Int.tmod_eq_emod_of_nonneg] at *); (try simp only [and_true]); first | rfl | (simp_all [goWait]; done) | (refine congrArg Value.bool (Bool.eq_iff_iff.2 ?_); simp [*, goWait, inB_iff]; done) | (refine congrArg Value.bool (Bool.eq_iff_iff.2 ?_); simp [*, goWait, inB_iff]; omega) | (simp_all [goWait]; omega))
theorem l2seg_s (f : Frm) (A : Option Addr) (c : Nat) (z : Zc) (h : f.data.length ≤ 1000000000) : PSpec Tryz.prog 146 [vFrm f (.slice A f.data.length c)] z fun v z' => v = .bool (pieceOk f.seg f.len f.data.length) ∧ z = z' := by
  (refine pspec_enter Tryz.func146 ic146_ok fr146_ok Tryz.ntmps146 ?_; simp only [seval, go_sem, ic146, fr146])
  (try simp only [seval, go_sem]); repeat' (first | (with_reducible refine vsI.id ?_; (try simp only [seval, go_sem])) | (with_reducible refine vcI_cond ?_; (try simp only [seval, go_sem])) | (with_reducible refine guardR.split (fun hg => ?_) (fun hg => ?_) <;> (try simp only [hg]) <;> simp only [seval, go_sem]) | (with_reducible refine condI.split (fun hg => ?_) (fun hg => ?_) <;> (try simp only [hg]) <;> (try simp only [seval, go_sem])) | (with_reducible refine callM.toT ?_) | (refine callP (in_s _ _ _ _) rfl rfl ?_; rintro _ _ - ⟨rfl, rfl⟩; (try simp only [seval, go_sem])))
  all_goals (first | ((first|refine fN ?_|exact fZ); (try simp only [inB_iff, inB_no, isNum_iff, beq_iff_eq, decide_eq_true_eq, decide_eq_false_iff_not, beq_eq_false_iff_ne, bne_iff_ne, bne_eq_false_iff_eq, Bool.not_eq_true', Bool.not_eq_false', and_true] at *); (try simp (disch := omega) only [wrap_in, Int.tmod_eq_emod_of_nonneg] at *); (try simp only [and_true]); (refine congrArg Value.bool (Bool.eq_iff_iff.2 ?_)); (simp only [pieceOk_iff, inB_iff, inB_no, isNum_iff, beq_iff_eq, decide_eq_true_eq, Bool.and_eq_true, Bool.or_eq_true, Bool.false_eq_true, false_iff, true_iff, iff_true, iff_false, Bool.not_eq_true']); omega) | ((first|refine fN ?_|exact fZ); (try simp only [inB_iff, inB_no, isNum_iff, beq_iff_eq, decide_eq_true_eq, decide_eq_false_iff_not, beq_eq_false_iff_ne, bne_iff_ne, bne_eq_false_iff_eq, Bool.not_eq_true', Bool.not_eq_false', and_true] at *); (try simp (disch := omega) only [wrap_in, Int.tmod_eq_emod_of_nonneg] at *); (try simp only [and_true]); first | rfl | (simp_all [pieceOk, inB]; done) | (refine congrArg Value.bool (Bool.eq_iff_iff.2 ?_); simp [*, pieceOk, inB, inB_iff]; done) | (refine congrArg Value.bool (Bool.eq_iff_iff.2 ?_); simp [*, pieceOk, inB, inB_iff]; omega) | (simp_all [pieceOk, inB]; omega)))
set_option maxHeartbeats 4000000
def ic144 : IC := (xR (xt (.mv (xi 0)) 4 .done) (.seq (xR (xtM 0 6 (xtL 6 7 (xt (.mv (xi 0)) 8 .done))) (.block 0 (.loop (xR (xt (.bin .lss (xr 8) (xr 7)) 9 .done) (.seq (.cond (xr 9) .skip (.exit 0)) (.seq (.block 1 (xR (xtM 8 10 (xtM 10 5 .done)) (xR (xtM 1 11 (xtM 0 12 (xtM 5 13 (xtI 12 13 3 14 (xtA 14 3 15 (xt (.oth (Op.call (Call.mk (Callee.value (xr 11)) #[xr 15] #[63]))) 16 .done)))))) (.cond (xr 16) (xR (xtM 5 17 (xtM 17 4 .done)) .ret) .skip)))) (xQ (xt (.bin .add (xr 8) (xi 1)) 18 (xtM 18 8 .done))))))))) (xR (xt (.mv (xi (-1))) 4 .done) .ret)))
theorem ic144_ok : Tryz.f144.body.bind (trC Tryz.prog []) = some ic144 := by kernel_rfl
def fr144 : List FR := [(FR.t 4)]
theorem fr144_ok : fres Tryz.prog Tryz.f144.results.toList = some fr144 := by kernel_rfl
def ic102 : IC := (xR (xt (.mv (xb false)) 4 .done) (xR (xtM 0 5 (xtM 1 6 (xt (.call 144 [xr 5, xr 6]) 7 (xt (.bin .geq (xr 7) (xi 0)) 8 (xtM 8 4 .done))))) .ret))
theorem ic102_ok : Tryz.f102.body.bind (trC Tryz.prog []) = some ic102 := by kernel_rfl
def fr102 : List FR := [(FR.t 4)]
theorem fr102_ok : fres Tryz.prog Tryz.f102.results.toList = some fr102 := by kernel_rfl
def ic63 : IC := (xR (xt (.box 24 (xr 0)) 2 (xt (.mv (xb false)) 4 .done)) (xR (xtM 1 5 (xt (.oth (Op.makeFunc (Fn.func 103) #[] #[xr 2])) 6 (xt (.call 102 [xr 5, xr 6]) 7 (xtT 7 8 (xtM 8 4 .done))))) .ret))
theorem ic63_ok : Tryz.f63.body.bind (trC Tryz.prog []) = some ic63 := by kernel_rfl
def fr63 : List FR := [(FR.t 4)]
theorem fr63_ok : fres Tryz.prog Tryz.f63.results.toList = some fr63 := by kernel_rfl
def ic103 : IC := (xR (xt (.box 63 (xr 0)) 2 (xt (.mv (xb false)) 3 .done)) (xR (xtA 2 3 4 (xt (.call 104 [xr 4]) 5 (xtT 5 6 (xtM 6 7 (xG (.fad (xr 2) 2) 8 7 false (xG (.ld (xr 8) 1 false) 9 7 false (xG (.len (xr 9)) 10 7 false (xG (.fad (xr 1) 2) 11 7 false (xG (.ld (xr 11) 1 false) 12 7 false (xG (.bin .gtr (xr 10) (xr 12)) 13 7 false (xt (.pick (xr 7) (xb true) (xr 13)) 14 (xtM 14 3 .done)))))))))))) .ret))
theorem ic103_ok : Tryz.f103.body.bind (trC Tryz.prog []) = some ic103 := by kernel_rfl
def fr103 : List FR := [(FR.t 3)]
theorem fr103_ok : fres Tryz.prog Tryz.f103.results.toList = some fr103 := by kernel_rfl
def ic67 : IC := (xR (xt (.mv (xi 0)) 4 .done) (.seq (xR (xtM 0 6 (xtL 6 7 (xt (.mv (xi 0)) 8 .done))) (.block 0 (.loop (xR (xt (.bin .lss (xr 8) (xr 7)) 9 .done) (.seq (.cond (xr 9) .skip (.exit 0)) (.seq (.block 1 (xR (xtM 8 10 (xtM 10 5 .done)) (xR (xtM 1 11 (xtM 0 12 (xtM 5 13 (xtI 12 13 2 14 (xtA 14 2 15 (xt (.oth (Op.call (Call.mk (Callee.value (xr 11)) #[xr 15] #[56]))) 16 .done)))))) (.cond (xr 16) (xR (xtM 5 17 (xtM 17 4 .done)) .ret) .skip)))) (xQ (xt (.bin .add (xr 8) (xi 1)) 18 (xtM 18 8 .done))))))))) (xR (xt (.mv (xi (-1))) 4 .done) .ret)))
theorem ic67_ok : Tryz.f67.body.bind (trC Tryz.prog []) = some ic67 := by kernel_rfl
def fr67 : List FR := [(FR.t 4)]
theorem fr67_ok : fres Tryz.prog Tryz.f67.results.toList = some fr67 := by kernel_rfl
def ic40 : IC := (xR (xt (.mv (xb false)) 4 .done) (xR (xtM 0 5 (xtM 1 6 (xt (.call 67 [xr 5, xr 6]) 7 (xt (.bin .geq (xr 7) (xi 0)) 8 (xtM 8 4 .done))))) .ret))
theorem ic40_ok : Tryz.f40.body.bind (trC Tryz.prog []) = some ic40 := by kernel_rfl
def fr40 : List FR := [(FR.t 4)]
theorem fr40_ok : fres Tryz.prog Tryz.f40.results.toList = some fr40 := by kernel_rfl
def ic105 : IC := (xR (xt (.mv (xi 0)) 4 .done) (.seq (xR (xtM 0 6 (xtL 6 7 (xt (.mv (xi 0)) 8 .done))) (.block 0 (.loop (xR (xt (.bin .lss (xr 8) (xr 7)) 9 .done) (.seq (.cond (xr 9) .skip (.exit 0)) (.seq (.block 1 (xR (xtM 8 10 (xtM 10 5 .done)) (xR (xtM 1 11 (xtM 0 12 (xtM 5 13 (xtI 12 13 1 14 (xtO 14 15 (xt (.oth (Op.call (Call.mk (Callee.value (xr 11)) #[xr 15] #[22]))) 16 .done)))))) (.cond (xr 16) (xR (xtM 5 17 (xtM 17 4 .done)) .ret) .skip)))) (xQ (xt (.bin .add (xr 8) (xi 1)) 18 (xtM 18 8 .done))))))))) (xR (xt (.mv (xi (-1))) 4 .done) .ret)))
theorem ic105_ok : Tryz.f105.body.bind (trC Tryz.prog []) = some ic105 := by kernel_rfl
def fr105 : List FR := [(FR.t 4)]
theorem fr105_ok : fres Tryz.prog Tryz.f105.results.toList = some fr105 := by kernel_rfl
def ic65 : IC := (xR (xt (.mv (xb false)) 4 .done) (xR (xtM 0 5 (xtM 1 6 (xt (.call 105 [xr 5, xr 6]) 7 (xt (.bin .geq (xr 7) (xi 0)) 8 (xtM 8 4 .done))))) .ret))
theorem ic65_ok : Tryz.f65.body.bind (trC Tryz.prog []) = some ic65 := by kernel_rfl
def fr65 : List FR := [(FR.t 4)]
theorem fr65_ok : fres Tryz.prog Tryz.f65.results.toList = some fr65 := by kernel_rfl
def ic39 : IC := (xR (xt (.mv (xb false)) 2 .done) (xR (xtM 0 3 (xtL 3 4 (xt (.bin .leq (xr 4) (xi 60)) 5 (xtM 5 6 (xG (.mv (xr 0)) 7 6 true (xG (.call 65 [xr 7, (.func 66)]) 8 6 true (xG (.not (xr 8)) 9 6 true (xt (.pick (xr 6) (xr 9) (xb false)) 10 (xtM 10 2 .done))))))))) .ret))
theorem ic39_ok : Tryz.f39.body.bind (trC Tryz.prog []) = some ic39 := by kernel_rfl
def fr39 : List FR := [(FR.t 2)]
theorem fr39_ok : fres Tryz.prog Tryz.f39.results.toList = some fr39 := by kernel_rfl
def ic66 : IC := (xR (xt (.mv (xb false)) 2 .done) (xR (xtM 0 3 (xtL 3 4 (xt (.bin .gtr (xr 4) (xi 24)) 5 (xtM 5 2 .done)))) .ret))
theorem ic66_ok : Tryz.f66.body.bind (trC Tryz.prog []) = some ic66 := by kernel_rfl
def fr66 : List FR := [(FR.t 2)]
theorem fr66_ok : fres Tryz.prog Tryz.f66.results.toList = some fr66 := by kernel_rfl
end Go.Proofs.YtnkhjnieidlknaaGreat
