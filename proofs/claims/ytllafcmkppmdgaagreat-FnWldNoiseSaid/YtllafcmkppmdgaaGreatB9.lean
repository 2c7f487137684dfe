/- Credits, by the program. · Who grants credits hears, by the program. · Credits, by the reference. · Who grants credits hears, by the reference. · Codes of functions, group Tx. -/
import Derived.Test.YtllafcmkppmdgaaGreatB8
import Derived.Test.YtllafcmkppmdgaaGreatB6
import Derived.Test.YtllafcmkppmdgaaGreatProg
namespace Go.Proofs.YtllafcmkppmdgaaGreat
open Go.RowKit
set_option linter.unusedVariables false
set_option linter.unusedSimpArgs false
set_option maxRecDepth 100000
set_option maxHeartbeats 1000000
def crdPutG (c : Cfg) (t : CTx) (sdu : List Int) : CTx × Bool := if ctxOk c t = true then crdPut c t sdu else (ctx0, false)
def crdSendG (c : Cfg) (t : CTx) : CTx × Option Frm := if ctxOk c t = true then crdSend t else (ctx0, none)
def crdTakeG (c : Cfg) (t : CTx) (n : Int) : CTx := if ctxOk c t = true ∧ 1 ≤ n ∧ n ≤ 255 then crdTake t n else ctx0
def crdGrantG (r : CRx) : CRx × Option Frm := if crxOk r = true then crdGrant r else (crx0, none)
def crdHearG (c : Cfg) (r : CRx) (f : Frm) : CRx × List (List Int) := if cfgOk c = true ∧ crxOk r = true ∧ f.kind = 3 ∧ frmOk f = true then crdHear c r f else (crx0, [])
def SayV (z : Zc) (o : Option Frm) (u w : Value) : Prop := ∃ x, u = vFrm (o.getD frm0) x ∧ By z (o.getD frm0).data x ∧ w = .bool o.isSome
theorem crdPutG_no {c : Cfg} {t : CTx} {sdu : List Int} (h : ctxOk c t = false) : crdPutG c t sdu = (ctx0, false) := by unfold crdPutG; rw [if_neg (by simp [h])]
theorem crdPutG_same {c : Cfg} {t : CTx} {sdu : List Int} (h : ctxOk c t = true) (k : t.dead = true ∨ (sdu.length : Int) > c.mtu ∨ t.queue.length + (segCut sdu c.mps).length > 24) : crdPutG c t sdu = (t, false) := by
 unfold crdPutG crdPut
 rw [if_pos h]
 split
 ·rfl
 ·rw [if_pos (by rename_i g; simp only [not_or] at g; rcases k with k | k | k; exact absurd k g.1; exact absurd k g.2; exact k)]
theorem crdPutG_yes {c : Cfg} {t : CTx} {sdu : List Int} (h : ctxOk c t = true) (h1 : t.dead = false) (h2 : (sdu.length : Int) ≤ c.mtu) (h3 : t.queue.length + (segCut sdu c.mps).length ≤ 24) : crdPutG c t sdu = ({ t with queue := t.queue ++ segCut sdu c.mps }, true) := by
 unfold crdPutG crdPut
 rw [if_pos h, if_neg (by simp [h1]; omega), if_neg (by omega)]
theorem CTxI.small {c : Cfg} {t : CTx} (h : CTxI c t) : ∀ p ∈ t.queue, p.data.length ≤ 8 := fun p hp => by have := (h.qu p hp).2; have := h.cfg.mps; omega
theorem crdput_i (c : Cfg) (t : CTx) (sdu : List Int) (q v : Value) (z : Zc) (h : Sl pRep z t.queue q) (hl : t.queue.length ≤ 1000000000) (hp : ∀ p ∈ t.queue, p.data.length ≤ 1000000000) (hv : By z sdu v) (hs : sdu.length ≤ 100000) :
  PSpec Tryz.prog 144 [vCfg c, vCTx t q, v] z fun u z' => ∃ q', u = .tuple #[vCTx (crdPutG c t sdu).1 q', .bool (crdPutG c t sdu).2] ∧ Sl pRep z' (crdPutG c t sdu).1.queue q' := by
 obtain ⟨A, k, cs, rfl, hk, he, hr⟩ := h
 obtain ⟨Av, kv, rfl, hkv, hBv, hrv⟩ := hv.form
 refine eP k144 ?_
 refine gO ?_
 refine tT ?_; refine callP (ctxok_i c t _ z ⟨A, k, cs, rfl, hk, he, hr⟩ hl hp) rfl rfl ?_; rintro u z1 hz1 rfl; refine gO ?_
 (with_reducible refine condI.split (fun hg => ?_) (fun hg => ?_) <;> (try simp only [hg]) <;> (try simp only [seval, go_sem]))
 ·(first|refine fN ?_|exact fZ)
  rw [crdPutG_no (by simpa using hg)]
  exact ⟨_, rfl, Sl.nil _ _ _⟩
 ·have hok : ctxOk c t = true := by simpa using hg
  have hI := ctxOk_iff.1 hok
  have hq := hI.queue
  have hmps := hI.cfg.mps
  refine gO ?_
  refine tT ?_; refine callP (ctxcopy_i t _ z1 (Sl.mono hz1 ⟨A, k, cs, rfl, hk, he, hr⟩) (by omega) hp) rfl rfl ?_; rintro u z2 hz2 ⟨A2, rfl, hs2⟩; refine gO ?_
  (with_reducible refine guardR.split (fun hg => ?_) (fun hg => ?_) <;> (try simp only [hg]) <;> simp only [seval, go_sem])
  ·refine gO ?_
   (first|refine fN ?_|exact fZ)
   rw [crdPutG_same hok (.inl hg)]
   exact ⟨_, by simp only [vCTx, hg], hs2⟩
  ·have hdead : t.dead = false := hg
   refine gO ?_
   (with_reducible refine condI.split (fun hg => ?_) (fun hg => ?_) <;> (try simp only [hg]) <;> (try simp only [seval, go_sem]))
   ·(first|refine fN ?_|exact fZ)
    rw [crdPutG_same hok (.inr (.inl (by simpa using hg)))]
    exact ⟨_, by simp only [vCTx, hdead], hs2⟩
   ·have hmtu : (sdu.length : Int) ≤ c.mtu := by simpa using hg
    refine gO ?_
    refine tT ?_; refine callP (segCut_i sdu c.mps _ z2 (hv.mono (Zc.trans' hz1 hz2)) hs (by omega)) rfl rfl ?_; rintro u z3 hz3 hs3; refine gO ?_
    obtain ⟨A3, k3, cs3, rfl, hk3, he3, hr3⟩ := hs3
    have h24 := segCut_length sdu c.mps
    refine gO ?_
    have w1 : IntKind.i64.wrap ((t.queue.length : Int) + ((segCut sdu c.mps).length : Int)) = ((t.queue.length + (segCut sdu c.mps).length : Nat) : Int) := by rw [wrap_in (by omega) (by omega)]; omega
    (with_reducible refine condI.split (fun hg => ?_) (fun hg => ?_) <;> (try simp only [hg]) <;> (try simp only [seval, go_sem]))
    ·rw [w1] at hg
     (first|refine fN ?_|exact fZ)
     rw [crdPutG_same hok (.inr (.inr (by simp at hg; omega)))]
     exact ⟨_, by simp only [vCTx, hdead], hs2.mono hz3⟩
    ·rw [w1] at hg
     refine gO ?_
     obtain ⟨A4, k4, cs4, e4, hk4, he4, hr4⟩ := hs2.mono hz3
     injection e4 with e4 _ _
     subst e4
     have hl4 : cs4.length = t.queue.length * 3 := he4.length
     have hl3 : cs3.length = (segCut sdu c.mps).length * 3 := he3.length
     refine aT ?_; (refine appM_fullR 99 atyP rfl rfl (hr4) (by first | omega | (simp <;> omega)) rfl (hr3) (by first | omega | (simp <;> omega)) (he3.one) (by omega) (fun A5 c5 z5 hz5 hc5 hr5 => ?_)); dsimp only at hz5; refine gO ?_
     have he5 := (he4.append he3).mono hz5
     refine tT ?_; refine callP (cloneP A5 _ c5 _ z5 hr5 (by rw [List.length_append]; omega) he5.one (by omega)) rfl rfl ?_; rintro u z6 hz6 ⟨A6, rfl, hr6⟩; refine gO ?_
     (first|refine fN ?_|exact fZ)
     rw [crdPutG_yes hok hdead hmtu (by simp at hg; omega)]
     refine ⟨.slice A6 (t.queue.length + (segCut sdu c.mps).length) (t.queue.length + (segCut sdu c.mps).length), by simp only [vCTx, hdead], _, _, _, by rw [List.length_append], by rw [List.length_append]; exact Nat.le_refl _, he5.mono hz6, hr6⟩
theorem crdSendG_no {c : Cfg} {t : CTx} (h : ctxOk c t = false) : crdSendG c t = (ctx0, none) := by unfold crdSendG; rw [if_neg (by simp [h])]
theorem crdSendG_same {c : Cfg} {t : CTx} (h : ctxOk c t = true) (k : t.dead = true ∨ t.hav = 0 ∨ t.queue = [] ∨ t.sent = 9999) : crdSendG c t = (t, none) := by
 unfold crdSendG crdSend
 rw [if_pos h]
 split
 ·rfl
 ·rename_i p q hq
  rw [if_pos (by rcases k with k | k | k | k; exact .inl k; exact .inr (.inl k); rw [hq] at k; cases k; exact .inr (.inr k))]
theorem crdSendG_yes {c : Cfg} {t : CTx} {p : Part} {q : List Part} (h : ctxOk c t = true) (h1 : t.dead = false) (h2 : t.hav ≠ 0) (h3 : t.queue = p :: q) (h4 : t.sent ≠ 9999) : crdSendG c t = ({ t with queue := q, hav := t.hav - 1, sent := t.sent + 1 }, some ⟨3, 0, 0, false, false, 0, p.seg, p.len, p.data⟩) := by
 unfold crdSendG crdSend
 rw [if_pos h]
 simp only [h3]
 rw [if_neg (by simp [h1, h2, h4])]
theorem crdsend_i (c : Cfg) (t : CTx) (q : Value) (z : Zc) (h : Sl pRep z t.queue q) (hl : t.queue.length ≤ 1000000000) (hp : ∀ p ∈ t.queue, p.data.length ≤ 1000000000) :
  PSpec Tryz.prog 145 [vCfg c, vCTx t q] z fun u z' => ∃ q' f w, u = .tuple #[vCTx (crdSendG c t).1 q', f, w] ∧ Sl pRep z' (crdSendG c t).1.queue q' ∧ SayV z' (crdSendG c t).2 f w := by
 obtain ⟨A, k, cs, rfl, hk, he, hr⟩ := h
 refine eP k145 ?_
 refine gO ?_
 refine tT ?_; refine callP (ctxok_i c t _ z ⟨A, k, cs, rfl, hk, he, hr⟩ hl hp) rfl rfl ?_; rintro u z1 hz1 rfl; refine gO ?_
 (with_reducible refine condI.split (fun hg => ?_) (fun hg => ?_) <;> (try simp only [hg]) <;> (try simp only [seval, go_sem]))
 ·(first|refine fN ?_|exact fZ)
  rw [crdSendG_no (by simpa using hg)]
  exact ⟨_, _, _, rfl, Sl.nil _ _ _, _, rfl, Sl.nil _ _ _, rfl⟩
 ·have hok : ctxOk c t = true := by simpa using hg
  have hI := ctxOk_iff.1 hok
  have hq := hI.queue
  refine gO ?_
  refine tT ?_; refine callP (ctxcopy_i t _ z1 (Sl.mono hz1 ⟨A, k, cs, rfl, hk, he, hr⟩) (by omega) hp) rfl rfl ?_; rintro u z2 hz2 ⟨A2, rfl, hs2⟩; refine gO ?_
  (with_reducible refine guardR.split (fun hg => ?_) (fun hg => ?_) <;> (try simp only [hg]) <;> simp only [seval, go_sem])
  ·refine gO ?_
   (first|refine fN ?_|exact fZ)
   rw [crdSendG_same hok (.inl hg)]
   exact ⟨_, vFrm frm0 (.slice none 0 0), _, by simp only [vCTx, hg]; rfl, hs2, _, rfl, Sl.nil _ _ _, rfl⟩
  ·have hdead : t.dead = false := hg
   refine gO ?_
   (with_reducible refine guardR.split (fun hg => ?_) (fun hg => ?_) <;> (try simp only [hg]) <;> simp only [seval, go_sem])
   ·refine gO ?_
    (first|refine fN ?_|exact fZ)
    rw [crdSendG_same hok (.inr (.inl (by simpa using hg)))]
    exact ⟨_, vFrm frm0 (.slice none 0 0), _, by simp only [vCTx, hdead]; rfl, hs2, _, rfl, Sl.nil _ _ _, rfl⟩
   ·have hhav : t.hav ≠ 0 := by simpa using hg
    refine gO ?_
    (with_reducible refine guardR.split (fun hg => ?_) (fun hg => ?_) <;> (try simp only [hg]) <;> simp only [seval, go_sem])
    ·refine gO ?_
     (first|refine fN ?_|exact fZ)
     rw [crdSendG_same hok (.inr (.inr (.inl (List.eq_nil_of_length_eq_zero (by simp at hg; simp [hg])))))]
     exact ⟨_, vFrm frm0 (.slice none 0 0), _, by simp only [vCTx, hdead]; rfl, hs2, _, rfl, Sl.nil _ _ _, rfl⟩
    ·have hqn : 0 < t.queue.length := by simp at hg; exact List.length_pos_iff.2 hg
     refine gO ?_
     (with_reducible refine condI.split (fun hg => ?_) (fun hg => ?_) <;> (try simp only [hg]) <;> (try simp only [seval, go_sem]))
     ·(first|refine fN ?_|exact fZ)
      rw [crdSendG_same hok (.inr (.inr (.inr (by simpa using hg))))]
      exact ⟨_, vFrm frm0 (.slice none 0 0), _, by simp only [vCTx, hdead]; rfl, hs2, _, rfl, Sl.nil _ _ _, rfl⟩
     ·have hsent : t.sent ≠ 9999 := by simpa using hg
      refine gO ?_
      obtain ⟨p, rest, hqe⟩ : ∃ p rest, t.queue = p :: rest := by
       cases hx : t.queue with
       | nil => rw [hx] at hqn; simp at hqn
       | cons p rest => exact ⟨p, rest, rfl⟩
      have hx : t.queue[0]? = some p := by rw [hqe]; rfl
      have hz12 := Zc.trans' hz1 hz2
      have hmem : p ∈ t.queue := by rw [hqe]; simp
      have hsm := hI.small p hmem
      obtain ⟨c1, ⟨v1, rfl, hb⟩, hr1⟩ := (he.mono hz12).at (hr.mono hz12) hx
      obtain ⟨Ab, kb, rfl, hkb, hBb, hrb⟩ := hb.form
      refine ⟨⟨by omega, he.isAt hr (by decide) hqn⟩, ?_⟩
      (refine ldF.agg _ rfl (by first | exact .inl hr1 | exact hr1) ?_; (try simp only [seval, go_sem]))
      refine gO ?_
      refine ⟨by omega, ?_⟩; refine gO ?_
      obtain ⟨A', k', cs', e', hk', he', hr'⟩ := hs2.drop (k := 1)
      injection e' with e1 e2 e3
      subst e1
      have hd1 : (t.queue.drop 1).length = t.queue.length - 1 := by simp
      refine tT ?_; refine callP (cloneP _ _ _ cs' z2 hr' (by rw [he'.length, hd1]; rfl) he'.one (by omega)) rfl rfl ?_; rintro u z3 hz3 ⟨A3, rfl, hr3⟩; refine gO ?_
      refine tT ?_; refine callP (cloneBy p.data _ z3 (hb.mono hz3) (by omega)) rfl rfl ?_; rintro u z4 hz4 ⟨A4, rfl, hB4, hr4⟩; refine gO ?_
      (first|refine fN ?_|exact fZ)
      have hq1 : t.queue.length - 1 = rest.length := by rw [hqe]; simp
      have hq2 : t.queue.drop 1 = rest := by rw [hqe]; rfl
      have hhv := hI.hav
      have hsn := hI.sent
      rw [crdSendG_yes hok hdead hhav hqe hsent, wrap_in (by omega) (by omega), wrap_in (by omega) (by omega), hq1]
      refine ⟨.slice A3 rest.length rest.length, vFrm ⟨3, 0, 0, false, false, 0, p.seg, p.len, p.data⟩ (.slice A4 p.data.length p.data.length), .bool true, by simp only [vCTx, hdead], ⟨_, _, cs', rfl, Nat.le_refl _, ?_, hr3.mono hz4⟩, _, rfl, By.mk (Nat.le_refl _) hB4 hr4, rfl⟩
      rw [← hq2]
      exact he'.mono (Zc.trans' hz3 hz4)
theorem crdTakeG_no {c : Cfg} {t : CTx} {n : Int} (h : ctxOk c t = false ∨ ¬ (1 ≤ n ∧ n ≤ 255)) : crdTakeG c t n = ctx0 := by unfold crdTakeG; rw [if_neg (by rintro ⟨g1, g2⟩; rcases h with h | h; rw [g1] at h; cases h; exact h g2)]
theorem crdTakeG_dead {c : Cfg} {t : CTx} {n : Int} (h : ctxOk c t = true) (hn : 1 ≤ n ∧ n ≤ 255) (h1 : t.dead = true) : crdTakeG c t n = t := by unfold crdTakeG crdTake; rw [if_pos ⟨h, hn⟩, if_pos h1]
theorem crdTakeG_end {c : Cfg} {t : CTx} {n : Int} (h : ctxOk c t = true) (hn : 1 ≤ n ∧ n ≤ 255) (h1 : t.dead = false) (h2 : t.hav + n > 255 ∨ t.granted + n > 9999) : crdTakeG c t n = { t with dead := true } := by unfold crdTakeG crdTake; rw [if_pos ⟨h, hn⟩, if_neg (by simp [h1]), if_pos h2]
theorem crdTakeG_yes {c : Cfg} {t : CTx} {n : Int} (h : ctxOk c t = true) (hn : 1 ≤ n ∧ n ≤ 255) (h1 : t.dead = false) (h2 : ¬ (t.hav + n > 255 ∨ t.granted + n > 9999)) : crdTakeG c t n = { t with hav := t.hav + n, granted := t.granted + n } := by unfold crdTakeG crdTake; rw [if_pos ⟨h, hn⟩, if_neg (by simp [h1]), if_neg h2]
theorem crdtake_i (c : Cfg) (t : CTx) (n : Int) (q : Value) (z : Zc) (h : Sl pRep z t.queue q) (hl : t.queue.length ≤ 1000000000) (hp : ∀ p ∈ t.queue, p.data.length ≤ 1000000000) :
  PSpec Tryz.prog 135 [vCfg c, vCTx t q, .int .i64 n] z fun u z' => ∃ q', u = vCTx (crdTakeG c t n) q' ∧ Sl pRep z' (crdTakeG c t n).queue q' := by
 obtain ⟨A, k, cs, rfl, hk, he, hr⟩ := h
 refine eP k135 ?_
 refine gO ?_
 refine tT ?_; refine callP (ctxok_i c t _ z ⟨A, k, cs, rfl, hk, he, hr⟩ hl hp) rfl rfl ?_; rintro u z1 hz1 rfl; refine gO ?_
 (with_reducible refine guardR.split (fun hg => ?_) (fun hg => ?_) <;> (try simp only [hg]) <;> simp only [seval, go_sem])
 ·refine gO ?_
  (first|refine fN ?_|exact fZ)
  rw [crdTakeG_no (.inl (by simpa using hg))]
  exact ⟨_, rfl, Sl.nil _ _ _⟩
 ·have hok : ctxOk c t = true := by simpa using hg
  have hI := ctxOk_iff.1 hok
  have hq := hI.queue
  refine gO ?_
  refine tT ?_; refine callP (in_i n 1 255 z1) rfl rfl ?_; rintro _ _ - ⟨rfl, rfl⟩; refine gO ?_
  (with_reducible refine condI.split (fun hg => ?_) (fun hg => ?_) <;> (try simp only [hg]) <;> (try simp only [seval, go_sem]))
  ·(first|refine fN ?_|exact fZ)
   rw [crdTakeG_no (.inr (by simpa [inB_no] using hg))]
   exact ⟨_, rfl, Sl.nil _ _ _⟩
  ·have hn : 1 ≤ n ∧ n ≤ 255 := by simpa [inB_iff] using hg
   refine gO ?_
   refine tT ?_; refine callP (ctxcopy_i t _ z1 (Sl.mono hz1 ⟨A, k, cs, rfl, hk, he, hr⟩) (by omega) hp) rfl rfl ?_; rintro u z2 hz2 ⟨A2, rfl, hs2⟩; refine gO ?_
   (with_reducible refine condI.split (fun hg => ?_) (fun hg => ?_) <;> (try simp only [hg]) <;> (try simp only [seval, go_sem]))
   ·(first|refine fN ?_|exact fZ)
    rw [crdTakeG_dead hok hn hg]
    exact ⟨_, by simp only [vCTx, hg], hs2⟩
   ·have hdead : t.dead = false := hg
    have hhv := hI.hav
    have hgr := hI.granted
    have w1 : IntKind.i64.wrap (t.hav + n) = t.hav + n := wrap_in (by omega) (by omega)
    have w2 : IntKind.i64.wrap (t.granted + n) = t.granted + n := wrap_in (by omega) (by omega)
    (try simp only [seval, go_sem]); repeat' (first | (with_reducible refine vsI.id ?_; (try simp only [seval, go_sem])) | (with_reducible refine vcI_cond ?_; (try simp only [seval, go_sem])) | (with_reducible refine guardR.split (fun hg => ?_) (fun hg => ?_) <;> (try simp only [hg]) <;> simp only [seval, go_sem]) | (with_reducible refine condI.split (fun hg => ?_) (fun hg => ?_) <;> (try simp only [hg]) <;> (try simp only [seval, go_sem])) | (with_reducible refine callM.toT ?_))
    all_goals (try simp only [w1, w2] at hg)
    all_goals (first|refine fN ?_|exact fZ)
    all_goals simp only [w1, w2, decide_eq_true_eq, decide_eq_false_iff_not] at *
    ·rw [crdTakeG_end hok hn hdead (.inl (by assumption))]
     exact ⟨_, rfl, hs2⟩
    ·rw [crdTakeG_end hok hn hdead (.inr (by assumption))]
     exact ⟨_, rfl, hs2⟩
    ·rw [crdTakeG_yes hok hn hdead (by omega)]
     exact ⟨_, by simp only [vCTx, hdead], hs2⟩
theorem crdGrantG_no {r : CRx} (h : crxOk r = false) : crdGrantG r = (crx0, none) := by unfold crdGrantG; rw [if_neg (by simp [h])]
theorem crdGrantG_same {r : CRx} (h : crxOk r = true) (k : r.dead = true ∨ r.out ≥ 6) : crdGrantG r = (r, none) := by unfold crdGrantG crdGrant; rw [if_pos h, if_pos k]
theorem crdGrantG_yes {r : CRx} (h : crxOk r = true) (k1 : r.dead = false) (k : ¬ r.out ≥ 6) : crdGrantG r = ({ r with out := 6 }, some ⟨4, 0, 0, false, false, 0, 0, 6 - r.out, []⟩) := by unfold crdGrantG crdGrant; rw [if_pos h, if_neg (by simp [k1]; omega)]
theorem crdgrant_i (r : CRx) (q : Value) (z : Zc) (h : By z r.join.got q) (hl : r.join.got.length ≤ 1000000000) (hj : -1000000000 ≤ r.join.len) :
  PSpec Tryz.prog 146 [vCRx r q] z fun u z' => ∃ q' f w, u = .tuple #[vCRx (crdGrantG r).1 q', f, w] ∧ By z' (crdGrantG r).1.join.got q' ∧ SayV z' (crdGrantG r).2 f w := by
 obtain ⟨A, k, rfl, hk, hB, hr⟩ := h.form
 refine eP k146 ?_
 refine gO ?_
 refine tT ?_; refine callP (crxok_i r A k z hl hj) rfl rfl ?_; rintro _ _ - ⟨rfl, rfl⟩; refine gO ?_
 (with_reducible refine condI.split (fun hg => ?_) (fun hg => ?_) <;> (try simp only [hg]) <;> (try simp only [seval, go_sem]))
 ·(first|refine fN ?_|exact fZ)
  rw [crdGrantG_no (by simpa using hg)]
  exact ⟨_, vFrm frm0 (.slice none 0 0), _, rfl, Sl.nil _ _ _, _, rfl, Sl.nil _ _ _, rfl⟩
 ·have hok : crxOk r = true := by simpa using hg
  have hI := crxOk_iff.1 hok
  refine gO ?_
  refine tT ?_; refine callP (crxcopy_i r _ z h hl) rfl rfl ?_; rintro u z2 hz2 ⟨A2, rfl, hs2⟩; refine gO ?_
  (with_reducible refine guardR.split (fun hg => ?_) (fun hg => ?_) <;> (try simp only [hg]) <;> simp only [seval, go_sem])
  ·refine gO ?_
   (first|refine fN ?_|exact fZ)
   rw [crdGrantG_same hok (.inl hg)]
   exact ⟨_, vFrm frm0 (.slice none 0 0), _, by simp only [vCRx, hg]; rfl, hs2, _, rfl, Sl.nil _ _ _, rfl⟩
  ·have hdead : r.dead = false := hg
   refine gO ?_
   (with_reducible refine condI.split (fun hg => ?_) (fun hg => ?_) <;> (try simp only [hg]) <;> (try simp only [seval, go_sem]))
   ·(first|refine fN ?_|exact fZ)
    rw [crdGrantG_same hok (.inr (by simpa using hg))]
    exact ⟨_, vFrm frm0 (.slice none 0 0), _, by simp only [vCRx, hdead]; rfl, hs2, _, rfl, Sl.nil _ _ _, rfl⟩
   ·refine gO ?_
    (first|refine fN ?_|exact fZ)
    have := hI.1
    rw [crdGrantG_yes hok hdead (by simpa using hg), wrap_in (by omega) (by omega)]
    exact ⟨_, vFrm ⟨4, 0, 0, false, false, 0, 0, 6 - r.out, []⟩ (.slice none 0 0), .bool true, by simp only [vCRx, hdead], hs2, _, rfl, Sl.nil _ _ _, rfl⟩
theorem crdHear_dead {c : Cfg} {r : CRx} {f : Frm} (h : r.dead = true) : crdHear c r f = (r, []) := by unfold crdHear; rw [if_pos h]
theorem crdHear_end {c : Cfg} {r : CRx} {f : Frm} (h : r.dead = false) (k : r.out = 0 ∨ f.len > c.mtu ∨ (f.data.length : Int) > c.mps) : crdHear c r f = ({ r with dead := true }, []) := by unfold crdHear; rw [if_neg (by simp [h]), if_pos k]
theorem crdHear_bad {c : Cfg} {r : CRx} {f : Frm} (h : r.dead = false) (k : ¬ (r.out = 0 ∨ f.len > c.mtu ∨ (f.data.length : Int) > c.mps)) (h3 : (segPut r.join ⟨f.seg, f.len, f.data⟩).2.2 = 3) : crdHear c r f = (⟨r.out - 1, (segPut r.join ⟨f.seg, f.len, f.data⟩).1, true⟩, []) := by unfold crdHear; rw [if_neg (by simp [h]), if_neg k]; simp only; rw [if_pos h3]
theorem crdHear_yes {c : Cfg} {r : CRx} {f : Frm} (h : r.dead = false) (k : ¬ (r.out = 0 ∨ f.len > c.mtu ∨ (f.data.length : Int) > c.mps)) (h3 : (segPut r.join ⟨f.seg, f.len, f.data⟩).2.2 ≠ 3) : crdHear c r f = (⟨r.out - 1, (segPut r.join ⟨f.seg, f.len, f.data⟩).1, false⟩, if (segPut r.join ⟨f.seg, f.len, f.data⟩).2.2 = 2 then [(segPut r.join ⟨f.seg, f.len, f.data⟩).2.1] else []) := by unfold crdHear; rw [if_neg (by simp [h]), if_neg k]; simp only; rw [if_neg h3, h]
abbrev crxA (b : Nat) (r : CRx) (v : Value) : Asrt := ptrA 47 b [.int .i64 r.out, .int .i64 r.join.len, v, .bool r.dead]
theorem frm3 {f : Frm} (h : frmOk f = true) (hk : f.kind = 3) : pieceOk f.seg f.len f.data.length = true := by
 unfold frmOk at h
 rw [if_neg (by omega), if_neg (by omega), if_pos hk] at h
 simp only [Bool.and_eq_true] at h
 exact h.2
theorem crdhear1 (b : Nat) (c : Cfg) (r : CRx) (f : Frm) (q u : Value) (z : Zc) (hq : By z r.join.got q) (hu : By z f.data u) (hc : CfgI c) (hr : CRxI r) (hp : pieceOk f.seg f.len f.data.length = true) :
  Spec Tryz.prog 161 [.pointer (some ⟨b, 0, none⟩), vCfg c, vFrm f u] z (starL [crxA b r q]) fun v z' A' => ∃ A k, A' = starL [crxA b (crdHear c r f).1 (.slice A (crdHear c r f).1.join.got.length k)] ∧ By z' (crdHear c r f).1.join.got (.slice A (crdHear c r f).1.join.got.length k) ∧ Sl sduRep z' (crdHear c r f).2 v := by
 obtain ⟨A, k, rfl, hk, hB, hrd⟩ := hq.form
 obtain ⟨A2, k2, rfl, hk2, hB2, hr2⟩ := hu.form
 refine eQ [] k161 ?_
 refine gO ?_
 (with_reducible refine condI.split (fun hg => ?_) (fun hg => ?_) <;> (try simp only [hg]) <;> (try simp only [seval, go_sem]))
 ·refine gO ?_
  (refine FinV.give 1000 0 2001 2000 rfl rfl rfl ?_); simp only [seval, go_sem, giveSt, subV, subC, subE, subL]
  (refine FinV.pk 999 [1000] ?_); dsimp only
  refine fP ?_
  rw [crdHear_dead hg]
  exact ⟨A, k, by simp only [crxA, hg], hq, Sl.nil _ _ _⟩
 ·have hdead : r.dead = false := hg
  (with_reducible refine guardR.split (fun hg => ?_) (fun hg => ?_) <;> (try simp only [hg]) <;> simp only [seval, go_sem])
  ·refine gO ?_
   (refine FinV.give 1000 0 2001 2000 rfl rfl rfl ?_); simp only [seval, go_sem, giveSt, subV, subC, subE, subL]
   (refine FinV.pk 999 [1000] ?_); dsimp only
   refine fP ?_
   rw [crdHear_end hdead (.inl (by simpa using hg))]
   exact ⟨A, k, rfl, hq, Sl.nil _ _ _⟩
  ·have hout : r.out ≠ 0 := by simpa using hg
   refine gO ?_
   (with_reducible refine guardR.split (fun hg => ?_) (fun hg => ?_) <;> (try simp only [hg]) <;> simp only [seval, go_sem])
   ·refine gO ?_
    (refine FinV.give 1000 0 2001 2000 rfl rfl rfl ?_); simp only [seval, go_sem, giveSt, subV, subC, subE, subL]
    (refine FinV.pk 999 [1000] ?_); dsimp only
    refine fP ?_
    rw [crdHear_end hdead (.inr (.inl (by simpa using hg)))]
    exact ⟨A, k, rfl, hq, Sl.nil _ _ _⟩
   ·have hlen : ¬ f.len > c.mtu := by simpa using hg
    refine gO ?_
    (with_reducible refine condI.split (fun hg => ?_) (fun hg => ?_) <;> (try simp only [hg]) <;> (try simp only [seval, go_sem]))
    ·refine gO ?_
     (refine FinV.give 1000 0 2001 2000 rfl rfl rfl ?_); simp only [seval, go_sem, giveSt, subV, subC, subE, subL]
     (refine FinV.pk 999 [1000] ?_); dsimp only
     refine fP ?_
     rw [crdHear_end hdead (.inr (.inr (by simpa using hg)))]
     exact ⟨A, k, rfl, hq, Sl.nil _ _ _⟩
    ·have hmps : ¬ (f.data.length : Int) > c.mps := by simpa using hg
     have hno : ¬ (r.out = 0 ∨ f.len > c.mtu ∨ (f.data.length : Int) > c.mps) := by omega
     have hk8 := hc.mps
     have hj := hr.2.le
     have hpb := pieceOk_bound hp
     have hjl : 0 ≤ r.join.len := by rcases hr.2 with h | h <;> omega
     have hro := hr.1
     have w1 : IntKind.i64.wrap (r.out - 1) = r.out - 1 := wrap_in (by omega) (by omega)
     refine gO ?_
     (with_reducible refine joinV.id ?_; simp only [seval, go_sem])
     refine ⟨?_, ?_⟩
     all_goals
      refine tT ?_; refine callP (puti r.join ⟨f.seg, f.len, f.data⟩ _ _ z hq hu (by omega) (by show f.data.length ≤ _; omega) hjl (by show 0 ≤ f.seg ∧ f.seg ≤ 3; omega)) rfl rfl ?_; rintro v z1 hz1 ⟨A3, k3, A4, k4, rfl, h3, h4⟩; refine gO ?_
     all_goals (try simp only [seval, go_sem]); repeat' (first | (with_reducible refine vsI.id ?_; (try simp only [seval, go_sem])) | (with_reducible refine vcI_cond ?_; (try simp only [seval, go_sem])) | (with_reducible refine guardR.split (fun hg => ?_) (fun hg => ?_) <;> (try simp only [hg]) <;> simp only [seval, go_sem]) | (with_reducible refine condI.split (fun hg => ?_) (fun hg => ?_) <;> (try simp only [hg]) <;> (try simp only [seval, go_sem])) | (with_reducible refine callM.toT ?_))
     ·have h33 : (segPut r.join ⟨f.seg, f.len, f.data⟩).2.2 = 3 := by simpa using hg
      (refine FinV.give 1000 0 2001 2000 rfl rfl rfl ?_); simp only [seval, go_sem, giveSt, subV, subC, subE, subL]
      (refine FinV.pk 999 [1000] ?_); dsimp only
      refine fP ?_
      rw [w1, crdHear_bad hdead hno h33]
      exact ⟨A3, k3, rfl, h3, Sl.nil _ _ _⟩
     ·have h33 : (segPut r.join ⟨f.seg, f.len, f.data⟩).2.2 = 2 := by simpa using hg
      (refine FinV.frz 4 rfl rfl (fun b4 z4 hz4 hr4 => ?_)); dsimp only at hz4; simp only [seval, go_sem, Go.Proofs.YtllafcmkppmdgaaGreat.frz, subV, subC, subE, subL]
      (refine FinV.give 1000 0 2001 2000 rfl rfl rfl ?_); simp only [seval, go_sem, giveSt, subV, subC, subE, subL]
      (refine FinV.pk 999 [1000] ?_); dsimp only
      refine fP ?_
      rw [w1, crdHear_yes hdead hno (by omega), if_pos h33]
      exact ⟨A3, k3, rfl, h3.mono hz4, _, _, _, rfl, Nat.le_refl _, Els.single (d := sduRep) ⟨_, rfl, h4.mono hz4⟩, hr4⟩
     ·have h33 : (segPut r.join ⟨f.seg, f.len, f.data⟩).2.2 ≠ 2 := by simpa using hg
      (refine FinV.give 1000 0 2001 2000 rfl rfl rfl ?_); simp only [seval, go_sem, giveSt, subV, subC, subE, subL]
      (refine FinV.pk 999 [1000] ?_); dsimp only
      refine fP ?_
      rw [w1, crdHear_yes hdead hno (by rename_i hg1; simpa using hg1), if_neg h33]
      exact ⟨A3, k3, rfl, h3, Sl.nil _ _ _⟩
     ·have h33 : (segPut r.join ⟨f.seg, f.len, f.data⟩).2.2 = 3 := by simpa using hg
      (refine FinV.give 1000 0 2001 2000 rfl rfl rfl ?_); simp only [seval, go_sem, giveSt, subV, subC, subE, subL]
      (refine FinV.pk 999 [1000] ?_); dsimp only
      refine fP ?_
      rw [w1, crdHear_bad hdead hno h33]
      exact ⟨A3, k3, rfl, h3, Sl.nil _ _ _⟩
     ·have h33 : (segPut r.join ⟨f.seg, f.len, f.data⟩).2.2 = 2 := by simpa using hg
      (refine FinV.frz 4 rfl rfl (fun b4 z4 hz4 hr4 => ?_)); dsimp only at hz4; simp only [seval, go_sem, Go.Proofs.YtllafcmkppmdgaaGreat.frz, subV, subC, subE, subL]
      (refine FinV.give 1000 0 2001 2000 rfl rfl rfl ?_); simp only [seval, go_sem, giveSt, subV, subC, subE, subL]
      (refine FinV.pk 999 [1000] ?_); dsimp only
      refine fP ?_
      rw [w1, crdHear_yes hdead hno (by omega), if_pos h33]
      exact ⟨A3, k3, rfl, h3.mono hz4, _, _, _, rfl, Nat.le_refl _, Els.single (d := sduRep) ⟨_, rfl, h4.mono hz4⟩, hr4⟩
     ·have h33 : (segPut r.join ⟨f.seg, f.len, f.data⟩).2.2 ≠ 2 := by simpa using hg
      (refine FinV.give 1000 0 2001 2000 rfl rfl rfl ?_); simp only [seval, go_sem, giveSt, subV, subC, subE, subL]
      (refine FinV.pk 999 [1000] ?_); dsimp only
      refine fP ?_
      rw [w1, crdHear_yes hdead hno (by rename_i hg1; simpa using hg1), if_neg h33]
      exact ⟨A3, k3, rfl, h3, Sl.nil _ _ _⟩
theorem crdHearG_no {c : Cfg} {r : CRx} {f : Frm} (h : ¬ (cfgOk c = true ∧ crxOk r = true ∧ f.kind = 3 ∧ frmOk f = true)) : crdHearG c r f = (crx0, []) := by unfold crdHearG; rw [if_neg h]
theorem crdHearG_ok {c : Cfg} {r : CRx} {f : Frm} (h : cfgOk c = true ∧ crxOk r = true ∧ f.kind = 3 ∧ frmOk f = true) : crdHearG c r f = crdHear c r f := by unfold crdHearG; rw [if_pos h]
theorem crdhear_i (c : Cfg) (r : CRx) (f : Frm) (q u : Value) (z : Zc) (hq : By z r.join.got q) (hu : By z f.data u) (hl : r.join.got.length ≤ 1000000000) (hj : -1000000000 ≤ r.join.len) (hf : f.data.length ≤ 100000) :
  PSpec Tryz.prog 136 [vCfg c, vCRx r q, vFrm f u] z fun v z' => ∃ q' w, v = .tuple #[vCRx (crdHearG c r f).1 q', w] ∧ By z' (crdHearG c r f).1.join.got q' ∧ Sl sduRep z' (crdHearG c r f).2 w := by
 obtain ⟨A, k, rfl, hk, hB, hrd⟩ := hq.form
 obtain ⟨A2, k2, rfl, hk2, hB2, hr2⟩ := hu.form
 refine eP k136 ?_
 have hf8 : f.data.length ≤ 100000000 := by omega
 (try simp only [seval, go_sem]); repeat' (first | (with_reducible refine vsI.id ?_; (try simp only [seval, go_sem])) | (with_reducible refine vcI_cond ?_; (try simp only [seval, go_sem])) | (with_reducible refine guardR.split (fun hg => ?_) (fun hg => ?_) <;> (try simp only [hg]) <;> simp only [seval, go_sem]) | (with_reducible refine condI.split (fun hg => ?_) (fun hg => ?_) <;> (try simp only [hg]) <;> (try simp only [seval, go_sem])) | (with_reducible refine callM.toT ?_) | (refine callP (cfgok_i _ _) rfl rfl ?_; rintro _ _ - ⟨rfl, rfl⟩; (try simp only [seval, go_sem])) | (refine callP (crxok_i r A k _ hl hj) rfl rfl ?_; rintro _ _ - ⟨rfl, rfl⟩; (try simp only [seval, go_sem])) | (refine callP (frmOk_i f _ z hu hf8) rfl rfl ?_; rintro _ _ - ⟨rfl, rfl⟩; (try simp only [seval, go_sem])))
 ·(first|refine fN ?_|exact fZ)
  rw [crdHearG_no (by simp_all)]
  exact ⟨_, _, rfl, Sl.nil _ _ _, Sl.nil _ _ _⟩
 ·(first|refine fN ?_|exact fZ)
  rw [crdHearG_no (by simp_all)]
  exact ⟨_, _, rfl, Sl.nil _ _ _, Sl.nil _ _ _⟩
 ·(first|refine fN ?_|exact fZ)
  rw [crdHearG_no (by simp_all)]
  exact ⟨_, _, rfl, Sl.nil _ _ _, Sl.nil _ _ _⟩
 ·(first|refine fN ?_|exact fZ)
  rw [crdHearG_no (by simp_all)]
  exact ⟨_, _, rfl, Sl.nil _ _ _, Sl.nil _ _ _⟩
 have hok : cfgOk c = true ∧ crxOk r = true ∧ f.kind = 3 ∧ frmOk f = true := by simp_all
 have hc := cfgOk_iff.1 hok.1
 have hr := crxOk_iff.1 hok.2.1
 refine tT ?_; refine callP (crxcopy_i r _ z hq hl) rfl rfl ?_; rintro v z2 hz2 ⟨A3, rfl, h3⟩; refine gO ?_
 (refine callT.give 90 4 2001 rfl rfl (fun b => ?_)); simp only [seval, go_sem, giveSt, subV, subC, subE, subL]
 refine tT ?_; (refine callM.pk 91 [90] ?_); dsimp only
 refine tT ?_; refine callW 91 (crdhear1 b c r f _ _ z2 h3 (hu.mono hz2) hc hr (frm3 hok.2.2.2 hok.2.2.1)) rfl rfl rfl rfl ?_; rintro v z3 A' hz3 ⟨A4, k4, rfl, h4, A5, k5, cs5, rfl, hk5, he5, hr5⟩; (try simp only [seval, go_sem])
 (refine vsI.tf (Tf.open' 91 [92] rfl rfl rfl) ?_); simp only [seval, go_sem, zipL]
 (refine vsI.take 92 4 2001 rfl rfl rfl ?_); simp only [seval, go_sem, takeSt, unV, vals]; refine gO ?_
 have hgot := (crdHear_ok (c := c) (f := f) hr (frm3 hok.2.2.2 hok.2.2.1)).1.2.le
 refine tT ?_; refine callP (crxcopy_i (crdHear c r f).1 _ z3 h4 (by omega)) rfl rfl ?_; rintro v z4 hz4 ⟨A6, rfl, h6⟩; refine gO ?_
 (first|refine fN ?_|exact fZ)
 rw [crdHearG_ok hok]
 exact ⟨_, _, rfl, h6, A5, k5, cs5, rfl, hk5, he5.mono hz4, hr5.mono hz4⟩
theorem crdput_s (c : Cfg) (t : CTx) (sdu : List Int) (q v : Value) (z : Zc) (h : Sl pRep z t.queue q) (hl : t.queue.length ≤ 1000000000) (hp : ∀ p ∈ t.queue, p.data.length ≤ 1000000000) (hv : By z sdu v) (hs : sdu.length ≤ 100000) :
  PSpec Tryz.prog 118 [vCfg c, vCTx t q, v] z fun u z' => ∃ q', u = .tuple #[vCTx (crdPutG c t sdu).1 q', .bool (crdPutG c t sdu).2] ∧ Sl pRep z' (crdPutG c t sdu).1.queue q' := by
 obtain ⟨A, k, cs, rfl, hk, he, hr⟩ := h
 obtain ⟨Av, kv, rfl, hkv, hBv, hrv⟩ := hv.form
 refine eP k118 ?_
 refine gO ?_
 refine tT ?_; refine callP (ctxok_s c t _ z ⟨A, k, cs, rfl, hk, he, hr⟩ hl hp) rfl rfl ?_; rintro u z1 hz1 rfl; refine gO ?_
 (with_reducible refine condI.split (fun hg => ?_) (fun hg => ?_) <;> (try simp only [hg]) <;> (try simp only [seval, go_sem]))
 ·(first|refine fN ?_|exact fZ)
  rw [crdPutG_no (by simpa using hg)]
  exact ⟨_, rfl, Sl.nil _ _ _⟩
 ·have hok : ctxOk c t = true := by simpa using hg
  have hI := ctxOk_iff.1 hok
  have hq := hI.queue
  have hmps := hI.cfg.mps
  refine gO ?_
  refine tT ?_; refine callO 90 (l8tx t _ z1 (Sl.mono hz1 ⟨A, k, cs, rfl, hk, he, hr⟩) (by omega) hp) rfl rfl rfl ?_; rintro u z2 A' hz2 ⟨A2, k2, cs2, rfl, rfl, hk2, he2⟩; refine gO ?_
  refine tT ?_; refine callP (segCut_s sdu c.mps _ z2 (hv.mono (Zc.trans' hz1 hz2)) hs (by omega)) rfl rfl ?_; rintro u z3 hz3 ⟨A3, k3, cs3, rfl, hk3, he3, hr3⟩; refine gO ?_
  have h24 := segCut_length sdu c.mps
  have w1 : IntKind.i64.wrap ((t.queue.length : Int) + ((segCut sdu c.mps).length : Int)) = ((t.queue.length + (segCut sdu c.mps).length : Nat) : Int) := by rw [wrap_in (by omega) (by omega)]; omega
  (try simp only [seval, go_sem]); repeat' (first | (with_reducible refine vsI.id ?_; (try simp only [seval, go_sem])) | (with_reducible refine vcI_cond ?_; (try simp only [seval, go_sem])) | (with_reducible refine guardR.split (fun hg => ?_) (fun hg => ?_) <;> (try simp only [hg]) <;> simp only [seval, go_sem]) | (with_reducible refine condI.split (fun hg => ?_) (fun hg => ?_) <;> (try simp only [hg]) <;> (try simp only [seval, go_sem])) | (with_reducible refine callM.toT ?_))
  ·(refine FinV.frzR 90 rfl (fun A4 c4 z4 hv4 hc4 hz4 hr4 => ?_)); dsimp only at hz4; (injection hv4 with hv_1 hv_2 hv_3; subst hv_1; subst hv_3); simp only [seval, go_sem]
   (first|refine fN ?_|exact fZ)
   rw [crdPutG_same hok (.inl hg)]
   exact ⟨_, by simp only [vCTx, hg], _, _, _, rfl, hk2, he2.mono (Zc.trans' hz3 hz4), hr4⟩
  ·(refine FinV.frzR 90 rfl (fun A4 c4 z4 hv4 hc4 hz4 hr4 => ?_)); dsimp only at hz4; (injection hv4 with hv_1 hv_2 hv_3; subst hv_1; subst hv_3); simp only [seval, go_sem]
   (first|refine fN ?_|exact fZ)
   rw [crdPutG_same hok (.inr (.inl (by simpa using hg)))]
   rename_i hdead
   exact ⟨_, by simp only [vCTx, hdead], _, _, _, rfl, hk2, he2.mono (Zc.trans' hz3 hz4), hr4⟩
  ·(refine FinV.frzR 90 rfl (fun A4 c4 z4 hv4 hc4 hz4 hr4 => ?_)); dsimp only at hz4; (injection hv4 with hv_1 hv_2 hv_3; subst hv_1; subst hv_3); simp only [seval, go_sem]
   (first|refine fN ?_|exact fZ)
   rw [w1] at hg
   rw [crdPutG_same hok (.inr (.inr (by simp at hg; omega)))]
   rename_i hdead _
   exact ⟨_, by simp only [vCTx, hdead], _, _, _, rfl, hk2, he2.mono (Zc.trans' hz3 hz4), hr4⟩
  ·rw [w1] at hg
   rename_i hdead hmtu
   have hl3 : cs3.length = (segCut sdu c.mps).length * 3 := he3.length
   refine aT ?_; (refine appM_rowF 90 atyP rfl rfl rfl rfl hr3 (by first | omega | simp) (he3.one) (by omega) (fun A5 c5 hc5 => ?_)); refine gO ?_
   (first | refine callT.frzR 90 rfl (fun A4 c4 z4 hv4 hc4 hz4 hr4 => ?_) | refine callM.frzR 90 rfl (fun A4 c4 z4 hv4 hc4 hz4 hr4 => ?_)); dsimp only at hz4; (injection hv4 with hv_1 hv_2 hv_3; subst hv_1; subst hv_3); simp only [seval, go_sem]
   have he5 := ((he2.mono hz3).append he3).mono hz4
   have hsm : ∀ p ∈ t.queue ++ segCut sdu c.mps, p.data.length ≤ 1000000000 := fun p hp' => by
    rcases List.mem_append.1 hp' with g | g
    ·exact hp p g
    ·have := (segCut_mem g).2.1; omega
   refine tT ?_; refine callO 91 (l8tx ⟨t.hav, t.queue ++ segCut sdu c.mps, t.granted, t.sent, false⟩ (.slice A5 (t.queue.length + (segCut sdu c.mps).length) c5) z4 ⟨A5, c5, _, by rw [List.length_append], by rw [List.length_append]; exact hc4, he5, hr4⟩ (by rw [List.length_append]; omega) hsm) rfl rfl rfl ?_; rintro u z6 A' hz6 ⟨A6, k6, cs6, rfl, rfl, hk6, he6⟩; refine gO ?_
   (refine FinV.frzR 91 rfl (fun A7 c7 z7 hv7 hc7 hz7 hr7 => ?_)); dsimp only at hz7; (injection hv7 with hv_1 hv_2 hv_3; subst hv_1; subst hv_3); simp only [seval, go_sem]
   (first|refine fN ?_|exact fZ)
   rw [crdPutG_yes hok hdead (by simpa using hmtu) (by simp at hg; omega)]
   exact ⟨_, by simp only [vCTx, hdead], _, _, _, rfl, hk6, he6.mono hz7, hr7⟩
theorem crdsend_s (c : Cfg) (t : CTx) (q : Value) (z : Zc) (h : Sl pRep z t.queue q) (hl : t.queue.length ≤ 1000000000) (hp : ∀ p ∈ t.queue, p.data.length ≤ 1000000000) :
  PSpec Tryz.prog 120 [vCfg c, vCTx t q] z fun u z' => ∃ q' f w, u = .tuple #[vCTx (crdSendG c t).1 q', f, w] ∧ Sl pRep z' (crdSendG c t).1.queue q' ∧ SayV z' (crdSendG c t).2 f w := by
 obtain ⟨A, k, cs, rfl, hk, he, hr⟩ := h
 refine eP k120 ?_
 refine gO ?_
 refine tT ?_; refine callP (ctxok_s c t _ z ⟨A, k, cs, rfl, hk, he, hr⟩ hl hp) rfl rfl ?_; rintro u z1 hz1 rfl; refine gO ?_
 (with_reducible refine condI.split (fun hg => ?_) (fun hg => ?_) <;> (try simp only [hg]) <;> (try simp only [seval, go_sem]))
 ·(first|refine fN ?_|exact fZ)
  rw [crdSendG_no (by simpa using hg)]
  exact ⟨_, _, _, rfl, Sl.nil _ _ _, _, rfl, Sl.nil _ _ _, rfl⟩
 ·have hok : ctxOk c t = true := by simpa using hg
  have hI := ctxOk_iff.1 hok
  have hq := hI.queue
  refine gO ?_
  refine tT ?_; refine callO 90 (l8tx t _ z1 (Sl.mono hz1 ⟨A, k, cs, rfl, hk, he, hr⟩) (by omega) hp) rfl rfl rfl ?_; rintro u z2 A' hz2 ⟨A2, k2, cs2, rfl, rfl, hk2, he2⟩; (try simp only [seval, go_sem])
  (refine vsI.frzR 90 rfl rfl (fun A4 c4 z4 hv4 hc4 hz4 hr4 => ?_)); (first | subst hv4 | (injection hv4 with hv_1 hv_2 hv_3; subst hv_1; subst hv_3)); refine gO ?_
  (try simp only [seval, go_sem]); repeat' (first | (with_reducible refine vsI.id ?_; (try simp only [seval, go_sem])) | (with_reducible refine vcI_cond ?_; (try simp only [seval, go_sem])) | (with_reducible refine guardR.split (fun hg => ?_) (fun hg => ?_) <;> (try simp only [hg]) <;> simp only [seval, go_sem]) | (with_reducible refine condI.split (fun hg => ?_) (fun hg => ?_) <;> (try simp only [hg]) <;> (try simp only [seval, go_sem])) | (with_reducible refine callM.toT ?_))
  ·(first|refine fN ?_|exact fZ)
   rw [crdSendG_same hok (.inl hg)]
   exact ⟨_, vFrm frm0 (.slice none 0 0), _, by simp only [vCTx, hg]; rfl, ⟨_, _, _, rfl, hk2, he2.mono hz4, hr4⟩, _, rfl, Sl.nil _ _ _, rfl⟩
  ·(first|refine fN ?_|exact fZ)
   rw [crdSendG_same hok (.inr (.inl (by simpa using hg)))]
   rename_i hdead
   exact ⟨_, vFrm frm0 (.slice none 0 0), _, by simp only [vCTx, hdead]; rfl, ⟨_, _, _, rfl, hk2, he2.mono hz4, hr4⟩, _, rfl, Sl.nil _ _ _, rfl⟩
  ·(first|refine fN ?_|exact fZ)
   rw [crdSendG_same hok (.inr (.inr (.inl (List.eq_nil_of_length_eq_zero (by simp at hg; simp [hg])))))]
   rename_i hdead _
   exact ⟨_, vFrm frm0 (.slice none 0 0), _, by simp only [vCTx, hdead]; rfl, ⟨_, _, _, rfl, hk2, he2.mono hz4, hr4⟩, _, rfl, Sl.nil _ _ _, rfl⟩
  ·(first|refine fN ?_|exact fZ)
   rw [crdSendG_same hok (.inr (.inr (.inr (by simpa using hg))))]
   rename_i hdead _ _
   exact ⟨_, vFrm frm0 (.slice none 0 0), _, by simp only [vCTx, hdead]; rfl, ⟨_, _, _, rfl, hk2, he2.mono hz4, hr4⟩, _, rfl, Sl.nil _ _ _, rfl⟩
  ·rename_i hdead hhav hqn
   have hqn : 0 < t.queue.length := by simp at hqn; exact List.length_pos_iff.2 hqn
   obtain ⟨p, rest, hqe⟩ : ∃ p rest, t.queue = p :: rest := by
    cases hx : t.queue with
    | nil => rw [hx] at hqn; simp at hqn
    | cons p rest => exact ⟨p, rest, rfl⟩
   have hx : t.queue[0]? = some p := by rw [hqe]; rfl
   have hmem : p ∈ t.queue := by rw [hqe]; simp
   have hsm := hI.small p hmem
   have he4 := he2.mono hz4
   obtain ⟨c1, ⟨v1, rfl, hb⟩, hr1⟩ := he4.at hr4 hx
   obtain ⟨Ab, kb, rfl, hkb, hBb, hrb⟩ := hb.form
   refine ⟨⟨by omega, he4.isAt hr4 (by decide) hqn⟩, ?_⟩
   (refine ldF.agg _ rfl (by first | exact .inl hr1 | exact hr1) ?_; (try simp only [seval, go_sem]))
   refine gO ?_
   refine ⟨by omega, ?_⟩; refine gO ?_
   have hd1 : (t.queue.drop 1).length = t.queue.length - 1 := by simp
   have hq1 : t.queue.length - 1 = rest.length := by rw [hqe]; simp
   have hq2 : t.queue.drop 1 = rest := by rw [hqe]; rfl
   have hdr : Sl pRep z4 rest (.slice (cutA A2 k2 1 3) (t.queue.length - 1) (k2 - 1)) := by
    have := Sl.drop (k := 1) (⟨A2, k2, _, rfl, hk2, he4, hr4⟩ : Sl pRep z4 t.queue (.slice A2 t.queue.length k2))
    rwa [hq2] at this
   refine tT ?_; refine callO 91 (l6list_s rest _ z4 hdr (by omega) (fun p hp' => hp p (by rw [hqe]; exact List.mem_cons_of_mem _ hp'))) rfl rfl rfl ?_; rintro u z5 A' hz5 ⟨A5, k5, cs5, rfl, rfl, hk5, he5⟩; refine gO ?_
   refine aT ?_; (refine appM_empty 99 atyB rfl (by first | exact .inl ⟨_, rfl⟩ | exact .inr ⟨_, _, rfl⟩) rfl (hrb.mono hz5) (by first | omega | (simp <;> omega)) (bc_one _) (by omega) (fun A6 c6 z6 hz6 hc6 hr6 => ?_)); dsimp only at hz6; refine gO ?_
   (refine FinV.frzR 91 rfl (fun A7 c7 z7 hv7 hc7 hz7 hr7 => ?_)); dsimp only at hz7; (injection hv7 with hv_1 hv_2 hv_3; subst hv_1; subst hv_3); simp only [seval, go_sem]
   (first|refine fN ?_|exact fZ)
   have hhv := hI.hav
   have hsn := hI.sent
   rw [crdSendG_yes hok hdead (by simpa using hhav) hqe (by simpa using hg), wrap_in (by omega) (by omega), wrap_in (by omega) (by omega)]
   exact ⟨.slice A5 rest.length k5, vFrm ⟨3, 0, 0, false, false, 0, p.seg, p.len, p.data⟩ (.slice A6 p.data.length c6), .bool true, by simp only [vCTx, hdead], ⟨_, _, _, rfl, hk5, he5.mono (Zc.trans' hz6 hz7), hr7⟩, _, rfl, By.mk hc6 hBb (hr6.mono hz7), rfl⟩
theorem crdtake_s (c : Cfg) (t : CTx) (n : Int) (q : Value) (z : Zc) (h : Sl pRep z t.queue q) (hl : t.queue.length ≤ 1000000000) (hp : ∀ p ∈ t.queue, p.data.length ≤ 1000000000) :
  PSpec Tryz.prog 156 [vCfg c, vCTx t q, .int .i64 n] z fun u z' => ∃ q', u = vCTx (crdTakeG c t n) q' ∧ Sl pRep z' (crdTakeG c t n).queue q' := by
 obtain ⟨A, k, cs, rfl, hk, he, hr⟩ := h
 refine eP k156 ?_
 refine gO ?_
 refine tT ?_; refine callP (ctxok_s c t _ z ⟨A, k, cs, rfl, hk, he, hr⟩ hl hp) rfl rfl ?_; rintro u z1 hz1 rfl; refine gO ?_
 (with_reducible refine guardR.split (fun hg => ?_) (fun hg => ?_) <;> (try simp only [hg]) <;> simp only [seval, go_sem])
 ·refine gO ?_
  (first|refine fN ?_|exact fZ)
  rw [crdTakeG_no (.inl (by simpa using hg))]
  exact ⟨_, rfl, Sl.nil _ _ _⟩
 ·have hok : ctxOk c t = true := by simpa using hg
  have hI := ctxOk_iff.1 hok
  have hq := hI.queue
  refine gO ?_
  refine tT ?_; refine callP (in_s n 1 255 z1) rfl rfl ?_; rintro _ _ - ⟨rfl, rfl⟩; refine gO ?_
  (with_reducible refine condI.split (fun hg => ?_) (fun hg => ?_) <;> (try simp only [hg]) <;> (try simp only [seval, go_sem]))
  ·(first|refine fN ?_|exact fZ)
   rw [crdTakeG_no (.inr (by simpa [inB_no] using hg))]
   exact ⟨_, rfl, Sl.nil _ _ _⟩
  ·have hn : 1 ≤ n ∧ n ≤ 255 := by simpa [inB_iff] using hg
   refine gO ?_
   refine tT ?_; refine callO 90 (l8tx t _ z1 (Sl.mono hz1 ⟨A, k, cs, rfl, hk, he, hr⟩) (by omega) hp) rfl rfl rfl ?_; rintro u z2 A' hz2 ⟨A2, k2, cs2, rfl, rfl, hk2, he2⟩; (try simp only [seval, go_sem])
   (refine vsI.frzR 90 rfl rfl (fun A4 c4 z4 hv4 hc4 hz4 hr4 => ?_)); (first | subst hv4 | (injection hv4 with hv_1 hv_2 hv_3; subst hv_1; subst hv_3)); refine gO ?_
   have hs2 : Sl pRep z4 t.queue (.slice A2 t.queue.length k2) := ⟨_, _, _, rfl, hk2, he2.mono hz4, hr4⟩
   (with_reducible refine condI.split (fun hg => ?_) (fun hg => ?_) <;> (try simp only [hg]) <;> (try simp only [seval, go_sem]))
   ·(first|refine fN ?_|exact fZ)
    rw [crdTakeG_dead hok hn hg]
    exact ⟨_, by simp only [vCTx, hg], hs2⟩
   ·have hdead : t.dead = false := hg
    have hhv := hI.hav
    have hgr := hI.granted
    have w1 : IntKind.i64.wrap (t.hav + n) = t.hav + n := wrap_in (by omega) (by omega)
    have w2 : IntKind.i64.wrap (t.granted + n) = t.granted + n := wrap_in (by omega) (by omega)
    (try simp only [seval, go_sem]); repeat' (first | (with_reducible refine vsI.id ?_; (try simp only [seval, go_sem])) | (with_reducible refine vcI_cond ?_; (try simp only [seval, go_sem])) | (with_reducible refine guardR.split (fun hg => ?_) (fun hg => ?_) <;> (try simp only [hg]) <;> simp only [seval, go_sem]) | (with_reducible refine condI.split (fun hg => ?_) (fun hg => ?_) <;> (try simp only [hg]) <;> (try simp only [seval, go_sem])) | (with_reducible refine callM.toT ?_))
    all_goals (try simp only [w1, w2] at hg)
    all_goals (first|refine fN ?_|exact fZ)
    all_goals simp only [w1, w2, decide_eq_true_eq, decide_eq_false_iff_not] at *
    ·rw [crdTakeG_end hok hn hdead (.inl (by assumption))]
     exact ⟨_, rfl, hs2⟩
    ·rw [crdTakeG_end hok hn hdead (.inr (by assumption))]
     exact ⟨_, rfl, hs2⟩
    ·rw [crdTakeG_yes hok hn hdead (by omega)]
     exact ⟨_, by simp only [vCTx, hdead], hs2⟩
theorem crdgrant_s (r : CRx) (q : Value) (z : Zc) (h : By z r.join.got q) (hl : r.join.got.length ≤ 1000000000) (hj : -1000000000 ≤ r.join.len) :
  PSpec Tryz.prog 126 [vCRx r q] z fun u z' => ∃ q' f w, u = .tuple #[vCRx (crdGrantG r).1 q', f, w] ∧ By z' (crdGrantG r).1.join.got q' ∧ SayV z' (crdGrantG r).2 f w := by
 obtain ⟨A, k, rfl, hk, hB, hr⟩ := h.form
 refine eP k126 ?_
 refine gO ?_
 refine tT ?_; refine callP (crxok_s r A k z hl hj) rfl rfl ?_; rintro _ _ - ⟨rfl, rfl⟩; refine gO ?_
 (with_reducible refine condI.split (fun hg => ?_) (fun hg => ?_) <;> (try simp only [hg]) <;> (try simp only [seval, go_sem]))
 ·(first|refine fN ?_|exact fZ)
  rw [crdGrantG_no (by simpa using hg)]
  exact ⟨_, vFrm frm0 (.slice none 0 0), _, rfl, Sl.nil _ _ _, _, rfl, Sl.nil _ _ _, rfl⟩
 ·have hok : crxOk r = true := by simpa using hg
  have hI := crxOk_iff.1 hok
  refine gO ?_
  refine tT ?_; refine callP (l8rx r _ z h hl) rfl rfl ?_; rintro u z2 hz2 ⟨A2, k2, rfl, hs2⟩; refine gO ?_
  (with_reducible refine guardR.split (fun hg => ?_) (fun hg => ?_) <;> (try simp only [hg]) <;> simp only [seval, go_sem])
  ·refine gO ?_
   (first|refine fN ?_|exact fZ)
   rw [crdGrantG_same hok (.inl hg)]
   exact ⟨_, vFrm frm0 (.slice none 0 0), _, by simp only [vCRx, hg]; rfl, hs2, _, rfl, Sl.nil _ _ _, rfl⟩
  ·have hdead : r.dead = false := hg
   refine gO ?_
   (with_reducible refine condI.split (fun hg => ?_) (fun hg => ?_) <;> (try simp only [hg]) <;> (try simp only [seval, go_sem]))
   ·(first|refine fN ?_|exact fZ)
    rw [crdGrantG_same hok (.inr (by simpa using hg))]
    exact ⟨_, vFrm frm0 (.slice none 0 0), _, by simp only [vCRx, hdead]; rfl, hs2, _, rfl, Sl.nil _ _ _, rfl⟩
   ·refine gO ?_
    (first|refine fN ?_|exact fZ)
    have := hI.1
    rw [crdGrantG_yes hok hdead (by simpa using hg), wrap_in (by omega) (by omega)]
    exact ⟨_, vFrm ⟨4, 0, 0, false, false, 0, 0, 6 - r.out, []⟩ (.slice none 0 0), .bool true, by simp only [vCRx, hdead], hs2, _, rfl, Sl.nil _ _ _, rfl⟩
theorem crdhear_s (c : Cfg) (r : CRx) (f : Frm) (q u : Value) (z : Zc) (hq : By z r.join.got q) (hu : By z f.data u) (hl : r.join.got.length ≤ 1000000000) (hj : -1000000000 ≤ r.join.len) (hf : f.data.length ≤ 100000) :
  PSpec Tryz.prog 157 [vCfg c, vCRx r q, vFrm f u] z fun v z' => ∃ q' w, v = .tuple #[vCRx (crdHearG c r f).1 q', w] ∧ By z' (crdHearG c r f).1.join.got q' ∧ Sl sduRep z' (crdHearG c r f).2 w := by
 obtain ⟨A, k, rfl, hk, hB, hrd⟩ := hq.form
 obtain ⟨A2, k2, rfl, hk2, hB2, hr2⟩ := hu.form
 refine eP k157 ?_
 have hf8 : f.data.length ≤ 100000000 := by omega
 (try simp only [seval, go_sem]); repeat' (first | (with_reducible refine vsI.id ?_; (try simp only [seval, go_sem])) | (with_reducible refine vcI_cond ?_; (try simp only [seval, go_sem])) | (with_reducible refine guardR.split (fun hg => ?_) (fun hg => ?_) <;> (try simp only [hg]) <;> simp only [seval, go_sem]) | (with_reducible refine condI.split (fun hg => ?_) (fun hg => ?_) <;> (try simp only [hg]) <;> (try simp only [seval, go_sem])) | (with_reducible refine callM.toT ?_) | (refine callP (cfgok_s _ _) rfl rfl ?_; rintro _ _ - ⟨rfl, rfl⟩; (try simp only [seval, go_sem])) | (refine callP (crxok_s r A k _ hl hj) rfl rfl ?_; rintro _ _ - ⟨rfl, rfl⟩; (try simp only [seval, go_sem])) | (refine callP (frmOk_s f _ z hu hf8) rfl rfl ?_; rintro _ _ - ⟨rfl, rfl⟩; (try simp only [seval, go_sem])))
 ·(refine FinV.frz 4 rfl rfl (fun b4 z4 hz4 hr4 => ?_)); dsimp only at hz4; simp only [seval, go_sem, Go.Proofs.YtllafcmkppmdgaaGreat.frz, subV, subC, subE, subL]
  (first|refine fN ?_|exact fZ)
  rw [crdHearG_no (by simp_all)]
  exact ⟨_, _, rfl, Sl.nil _ _ _, Sl.nil _ _ _⟩
 ·(refine FinV.frz 4 rfl rfl (fun b4 z4 hz4 hr4 => ?_)); dsimp only at hz4; simp only [seval, go_sem, Go.Proofs.YtllafcmkppmdgaaGreat.frz, subV, subC, subE, subL]
  (first|refine fN ?_|exact fZ)
  rw [crdHearG_no (by simp_all)]
  exact ⟨_, _, rfl, Sl.nil _ _ _, Sl.nil _ _ _⟩
 ·(refine FinV.frz 4 rfl rfl (fun b4 z4 hz4 hr4 => ?_)); dsimp only at hz4; simp only [seval, go_sem, Go.Proofs.YtllafcmkppmdgaaGreat.frz, subV, subC, subE, subL]
  (first|refine fN ?_|exact fZ)
  rw [crdHearG_no (by simp_all)]
  exact ⟨_, _, rfl, Sl.nil _ _ _, Sl.nil _ _ _⟩
 ·(refine FinV.frz 4 rfl rfl (fun b4 z4 hz4 hr4 => ?_)); dsimp only at hz4; simp only [seval, go_sem, Go.Proofs.YtllafcmkppmdgaaGreat.frz, subV, subC, subE, subL]
  (first|refine fN ?_|exact fZ)
  rw [crdHearG_no (by simp_all)]
  exact ⟨_, _, rfl, Sl.nil _ _ _, Sl.nil _ _ _⟩
 have hok : cfgOk c = true ∧ crxOk r = true ∧ f.kind = 3 ∧ frmOk f = true := by simp_all
 have hc := cfgOk_iff.1 hok.1
 have hr := crxOk_iff.1 hok.2.1
 have hp := frm3 hok.2.2.2 hok.2.2.1
 have hpb := pieceOk_bound hp
 have hj23 := hr.2.le
 have hjl : 0 ≤ r.join.len := by rcases hr.2 with h | h <;> omega
 have hro := hr.1
 have w1 : IntKind.i64.wrap (r.out - 1) = r.out - 1 := wrap_in (by omega) (by omega)
 rw [crdHearG_ok hok]
 refine tT ?_; refine callP (l8rx r _ z hq hl) rfl rfl ?_; rintro v z2 hz2 ⟨A3, k3, rfl, h3⟩; refine gO ?_
 (with_reducible refine condI.split (fun hg => ?_) (fun hg => ?_) <;> (try simp only [hg]) <;> (try simp only [seval, go_sem]))
 ·refine gO ?_
  (refine FinV.frz 5 rfl rfl (fun b4 z4 hz4 hr4 => ?_)); dsimp only at hz4; simp only [seval, go_sem, Go.Proofs.YtllafcmkppmdgaaGreat.frz, subV, subC, subE, subL]
  (first|refine fN ?_|exact fZ)
  rw [crdHear_dead hg]
  exact ⟨_, .slice (some ⟨b4, 0, none⟩) 0 0, by simp only [vCRx, hg], h3.mono hz4, Sl.nil _ _ _⟩
 ·have hdead : r.dead = false := hg
  (try simp only [seval, go_sem]); repeat' (first | (with_reducible refine vsI.id ?_; (try simp only [seval, go_sem])) | (with_reducible refine vcI_cond ?_; (try simp only [seval, go_sem])) | (with_reducible refine guardR.split (fun hg => ?_) (fun hg => ?_) <;> (try simp only [hg]) <;> simp only [seval, go_sem]) | (with_reducible refine condI.split (fun hg => ?_) (fun hg => ?_) <;> (try simp only [hg]) <;> (try simp only [seval, go_sem])) | (with_reducible refine callM.toT ?_))
  ·(refine FinV.frz 5 rfl rfl (fun b4 z4 hz4 hr4 => ?_)); dsimp only at hz4; simp only [seval, go_sem, Go.Proofs.YtllafcmkppmdgaaGreat.frz, subV, subC, subE, subL]
   (first|refine fN ?_|exact fZ)
   rw [crdHear_end hdead (.inl (by simpa using hg))]
   exact ⟨_, _, rfl, h3.mono hz4, Sl.nil _ _ _⟩
  ·(refine FinV.frz 5 rfl rfl (fun b4 z4 hz4 hr4 => ?_)); dsimp only at hz4; simp only [seval, go_sem, Go.Proofs.YtllafcmkppmdgaaGreat.frz, subV, subC, subE, subL]
   (first|refine fN ?_|exact fZ)
   rw [crdHear_end hdead (.inr (.inl (by simpa using hg)))]
   exact ⟨_, _, rfl, h3.mono hz4, Sl.nil _ _ _⟩
  ·(refine FinV.frz 5 rfl rfl (fun b4 z4 hz4 hr4 => ?_)); dsimp only at hz4; simp only [seval, go_sem, Go.Proofs.YtllafcmkppmdgaaGreat.frz, subV, subC, subE, subL]
   (first|refine fN ?_|exact fZ)
   rw [crdHear_end hdead (.inr (.inr (by simpa using hg)))]
   exact ⟨_, _, rfl, h3.mono hz4, Sl.nil _ _ _⟩
  ·rename_i h0 h1
   have hno : ¬ (r.out = 0 ∨ f.len > c.mtu ∨ (f.data.length : Int) > c.mps) := by simp at h0 h1 hg; omega
   refine tT ?_; refine callP (puts r.join ⟨f.seg, f.len, f.data⟩ _ _ z2 h3 (hu.mono hz2) (by omega) (by show f.data.length ≤ _; omega) hjl (by show 0 ≤ f.seg ∧ f.seg ≤ 3; omega)) rfl rfl ?_; rintro v z3 hz3 ⟨A4, k4, A5, k5, rfl, h4, h5⟩; refine gO ?_
   have hpo := segPut_ok (p := ⟨f.seg, f.len, f.data⟩) hr.2 hp
   have hg23 := hpo.1.le
   (try simp only [seval, go_sem]); repeat' (first | (with_reducible refine vsI.id ?_; (try simp only [seval, go_sem])) | (with_reducible refine vcI_cond ?_; (try simp only [seval, go_sem])) | (with_reducible refine guardR.split (fun hg => ?_) (fun hg => ?_) <;> (try simp only [hg]) <;> simp only [seval, go_sem]) | (with_reducible refine condI.split (fun hg => ?_) (fun hg => ?_) <;> (try simp only [hg]) <;> (try simp only [seval, go_sem])) | (with_reducible refine callM.toT ?_))
   ·exfalso
    rename_i g
    simp at g hg
    omega
   ·rename_i g
    refine tT ?_; refine callP (l8rx ⟨IntKind.i64.wrap (r.out - 1), (segPut r.join ⟨f.seg, f.len, f.data⟩).1, true⟩ _ z3 h4 (by show (segPut r.join ⟨f.seg, f.len, f.data⟩).1.got.length ≤ _; omega)) rfl rfl ?_; rintro v z4 hz4 ⟨A6, k6, rfl, h6⟩; refine gO ?_
    (refine FinV.frz 6 rfl rfl (fun b4 z5 hz5 hr5 => ?_)); dsimp only at hz5; simp only [seval, go_sem, Go.Proofs.YtllafcmkppmdgaaGreat.frz, subV, subC, subE, subL]
    (first|refine fN ?_|exact fZ)
    rw [crdHear_bad hdead hno (by simpa using g), w1]
    exact ⟨_, _, rfl, h6.mono hz5, Sl.nil _ _ _⟩
   ·rename_i g
    refine tT ?_; refine callP (l8rx ⟨IntKind.i64.wrap (r.out - 1), (segPut r.join ⟨f.seg, f.len, f.data⟩).1, false⟩ _ z3 h4 (by show (segPut r.join ⟨f.seg, f.len, f.data⟩).1.got.length ≤ _; omega)) rfl rfl ?_; rintro v z4 hz4 ⟨A6, k6, rfl, h6⟩; refine gO ?_
    (first | refine callT.frz 6 rfl rfl (fun b6 z6 hz6 hr6 => ?_) | refine callM.frz 6 rfl rfl (fun b6 z6 hz6 hr6 => ?_)); dsimp only at hz6; simp only [seval, go_sem, Go.Proofs.YtllafcmkppmdgaaGreat.frz, subV, subC, subE, subL]
    have h23 : (segPut r.join ⟨f.seg, f.len, f.data⟩).2.2 = 2 := by simpa using hg
    have h24 := (hpo.2 h23).1
    refine tT ?_; refine callO 90 (l7sdus_s [(segPut r.join ⟨f.seg, f.len, f.data⟩).2.1] (.slice (some ⟨b6, 0, none⟩) 1 1) z6 ⟨_, _, _, rfl, Nat.le_refl _, Els.single (d := sduRep) ⟨_, rfl, h5.mono (Zc.trans' hz4 hz6)⟩, hr6⟩ (by simp) (by simp; omega)) rfl rfl rfl ?_; rintro v z7 A' hz7 ⟨A7, k7, cs7, rfl, rfl, hk7, he7⟩; refine gO ?_
    (refine FinV.frzR 90 rfl (fun A8 c8 z8 hv8 hc8 hz8 hr8 => ?_)); dsimp only at hz8; (injection hv8 with hv_1 hv_2 hv_3; subst hv_1; subst hv_3); simp only [seval, go_sem]
    (first|refine fN ?_|exact fZ)
    rw [crdHear_yes hdead hno (by simpa using g), if_pos h23, w1]
    exact ⟨_, _, rfl, h6.mono (Zc.trans' hz6 (Zc.trans' hz7 hz8)), _, _, _, rfl, hk7, he7.mono hz8, hr8⟩
   ·rename_i g
    refine tT ?_; refine callP (l8rx ⟨IntKind.i64.wrap (r.out - 1), (segPut r.join ⟨f.seg, f.len, f.data⟩).1, false⟩ _ z3 h4 (by show (segPut r.join ⟨f.seg, f.len, f.data⟩).1.got.length ≤ _; omega)) rfl rfl ?_; rintro v z4 hz4 ⟨A6, k6, rfl, h6⟩; refine gO ?_
    (refine FinV.frz 6 rfl rfl (fun b4 z5 hz5 hr5 => ?_)); dsimp only at hz5; simp only [seval, go_sem, Go.Proofs.YtllafcmkppmdgaaGreat.frz, subV, subC, subE, subL]
    (first|refine fN ?_|exact fZ)
    rw [crdHear_yes hdead hno (by simpa using g), if_neg (by simpa using hg), w1]
    exact ⟨_, _, rfl, h6.mono hz5, Sl.nil _ _ _⟩
set_option maxHeartbeats 4000000
set_option linter.defProp false
def k94 := mkK [(.c 2 10 true)] [] [] Tryz.func94 Tryz.ntmps94 rfl
def k117 := mkK [(.c 6 10 true),(.t 7)] [] [] Tryz.func117 Tryz.ntmps117 rfl
def k152 := mkK [(.c 6 9 true)] [] [(1,[6],.l [0,4,8,13,16,21,28,33,26,38,40,46])] Tryz.func152 Tryz.ntmps152 rfl
def k119 := mkK [(.c 6 10 true),(.c 7 9 true),(.t 8)] [1000073] [(6,[],.l [0,5,8,13,16,21,26,30,32,39]),(9,[],.f [0,5,8,13,16,24,29,32,37,40,44,48] (.f [22] (.l [54,58,63]) (.l [58,54,63])) (.l [58,22,54,63])),(11,[6,7],.l [1,5,10,14,16])] Tryz.func119 Tryz.ntmps119 rfl
def k177 := mkK [(.c 4 10 true)] [] [] Tryz.func177 Tryz.ntmps177 rfl
def k169 := mkK [(.c 4 10 true)] [] [] Tryz.func169 Tryz.ntmps169 rfl
def k122 := mkK [(.c 8 10 true),(.c 9 9 true),(.t 10)] [] [(8,[8,9],.l [1,4,8,14,16,20,26,30,32])] Tryz.func122 Tryz.ntmps122 rfl
def k95 := mkK [(.c 2 7 true)] [] [] Tryz.func95 Tryz.ntmps95 rfl
def k125 := mkK [(.c 4 9 true)] [] [] Tryz.func125 Tryz.ntmps125 rfl
def k181 := mkK [(.c 6 7 true),(.t 7)] [] [] Tryz.func181 Tryz.ntmps181 rfl
def k178 := mkK [(.c 6 7 true),(.t 7),(.t 8)] [] [(2,[6],.f [1,9] (.f [6,14] (.l [18,22,24,28]) (.l [22,24,18,28])) (.f [14] (.f [6] (.l [18,22,24,28]) (.l [22,24,18,28])) (.f [] (.f [18] (.l [6,22,24,28]) (.l [22,6,24,28])) (.f [22] (.l [6,24,18,28]) (.l [18,6,24,28]))))),(9,[6],.f [1,8,13,16] (.f [6] (.l [22,26,28,32]) (.l [26,28,22,32])) (.f [] (.f [22] (.l [6,26,28,32]) (.l [26,6,28,32])) (.f [26] (.l [6,28,22,32]) (.l [22,6,28,32]))))] Tryz.func178 Tryz.ntmps178 rfl
def k170 := mkK [(.c 6 7 true),(.t 7),(.t 8)] [] [(7,[6],.f [1,9] (.f [6,14] (.l [18,22,24,28]) (.l [22,24,18,28])) (.f [14] (.f [6] (.l [18,22,24,28]) (.l [22,24,18,28])) (.f [] (.f [18] (.l [6,22,24,28]) (.l [22,6,24,28])) (.f [22] (.l [6,24,18,28]) (.l [18,6,24,28])))))] Tryz.func170 Tryz.ntmps170 rfl
def k153 := mkK [(.t 2)] [] [(1,[],.l [0,5,10,12,16,21,26,28,32,36,41,48,53,46,56,60,64,68,73,78,80,84])] Tryz.func153 Tryz.ntmps153 rfl
def k123 := mkK [(.c 4 7 true),(.t 5)] [] [(8,[4],.f [1,5,10] (.l [14,18,20]) (.l [18,14,20]))] Tryz.func123 Tryz.ntmps123 rfl
end Go.Proofs.YtllafcmkppmdgaaGreat
