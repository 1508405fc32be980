/- Publishers: plain; the example; UpdateFull, walked. -/
import Derived.Test.YtilkjcobkdjlkaaUpV
import Derived.Test.YtilkjcobkdjlkaaUpB
import Derived.Test.YtilkjcobkdjlkaaUpD
namespace Go.Proofs.Ytilkjcobkdjlkaa.Sim
open Go
set_option maxRecDepth 100000
set_option maxHeartbeats 8000000
set_option linter.unusedVariables false
set_option linter.unusedSimpArgs false
attribute [local irreducible] Go Mean
theorem getD_app {α : Type} (z : α) (l : List α) (u : α) (k : Nat) : (l ++ [u]).getD k z = if k < l.length then l.getD k z else if k = l.length then u else z := by
  rw [List.getD_eq_getElem?_getD, List.getElem?_append]
  split
  · rw [← List.getD_eq_getElem?_getD]
  · rename_i h
    by_cases e : k = l.length
    · rw [if_pos e]; subst e; simp
    · rw [if_neg e, List.getElem?_eq_none (by simp; omega)]; rfl
theorem lastT_app {l : List PTab} {u : PTab} : lastT (l ++ [u]) = u := by
  unfold lastT
  rw [getD_app, if_neg (by simp), if_pos (by simp)]
theorem validP.app {l : List PTab} {u : PTab} (h : validP l) (hc : checkT u = 0) (hp : u.p = (lastT l).p) (hw : u.width = (lastT l).width) (hn : (lastT l).num < u.num) (hl : l.length < 16) : validP (l ++ [u]) := by
  obtain ⟨h1, h2, h3⟩ := h
  have hla := h3 (l.length - 1) (by omega)
  refine ⟨by simp, by simp; omega, fun k hk => ?_⟩
  rw [List.length_append, List.length_singleton] at hk
  unfold okAt
  rw [getD_app, getD_app, getD_app, if_pos (show 0 < l.length by omega)]
  by_cases e : k < l.length
  · have := h3 k e
    rw [if_pos e]
    refine ⟨this.1, this.2.1, this.2.2.1, fun h0 => ?_⟩
    rw [if_pos (show k - 1 < l.length by omega)]
    exact this.2.2.2 h0
  · have e : k = l.length := by omega
    subst e
    rw [if_neg (Nat.lt_irrefl _), if_pos rfl]
    refine ⟨hc, hp.trans hla.2.1, hw.trans hla.2.2.1, fun h0 => ?_⟩
    rw [if_pos (show l.length - 1 < l.length by omega)]
    exact hn
theorem validP.one {t : PTab} (h : checkT t = 0) : validP [t] := by
  refine ⟨by simp, by simp, fun k hk => ?_⟩
  obtain rfl : k = 0 := by simpa using hk
  exact ⟨h, rfl, rfl, fun h => by omega⟩
theorem validP.okTs {l : List PTab} (h : validP l) : OkTs l := by
  refine ⟨by have := h.2.1; omega, fun t ht => ?_⟩
  obtain ⟨k, hk, rfl⟩ := List.getElem_of_mem ht
  have := (h.2.2 k hk).1
  rw [List.getD_eq_getElem?_getD, List.getElem?_eq_getElem hk] at this
  exact okT_check this
theorem pubF_ok {l : List PTab} {c : PChg} (h : validP l) (hc : checkC (lastT l) c = 0) (hl : l.length < 16) : pubF l c = (l ++ [(applyF (lastT l) c).1], 0) := by
  rw [pubF, if_neg (by simp [validB_yes h]), if_neg (by simp [hc]), if_neg (by omega)]
theorem pubF_full {l : List PTab} {c : PChg} (h : validP l) (hc : checkC (lastT l) c = 0) (hl : l.length = 16) : pubF l c = (l, 4) := by
  rw [pubF, if_neg (by simp [validB_yes h]), if_neg (by simp [hc]), if_pos (by omega)]
theorem pubF_err {l : List PTab} {c : PChg} (h : validP l) (hc : checkC (lastT l) c ≠ 0) : pubF l c = (l, checkC (lastT l) c) := by
  rw [pubF, if_neg (by simp [validB_yes h]), if_pos hc]
theorem checkC_of {t : PTab} {c : PChg} (h1 : checkT t = 0) (h2 : formF c = true) (h3 : c.fr = t.num) (h4 : setsErr t.p t.width c.sets = 0) (h5 : (behindF t.rows.length c.sets : Int) = max 0 (c.count - t.rows.length)) : checkC t c = 0 := by
  rw [checkC, if_neg (by simp [h1]), if_neg (by simp [h2]), if_neg (by simp [h3]), if_neg (by simp [h4]), if_neg (by simp [h5])]
theorem field7' : fieldB 7 = true := fieldB_four 0 (by decide)
theorem field5 : fieldB 5 = true := by
  rw [fieldB_iff]
  refine ⟨by decide, by decide, fun d hd hdd => ?_⟩
  have : d = 2 := by
    apply Classical.byContradiction
    intro h
    have h4 : (3 : Int) * 3 ≤ d * d := Int.mul_le_mul (by omega) (by omega) (by omega) (by omega)
    omega
  subst this
  decide
def tA : PTab := ⟨1, 7, 1, [[1]]⟩
def tB : PTab := ⟨2, 7, 1, [[2]]⟩
def tC : PTab := ⟨5, 7, 1, [[2], [3]]⟩
theorem tA_ok : checkT tA = 0 := by rw [checkT, if_neg (by decide), if_neg (by simp [tA, field7']), if_neg (by decide), if_neg (by decide)]; decide
theorem tB_ok : checkT tB = 0 := by rw [checkT, if_neg (by decide), if_neg (by simp [tB, field7']), if_neg (by decide), if_neg (by decide)]; decide
theorem tC_ok : checkT tC = 0 := by rw [checkT, if_neg (by decide), if_neg (by simp [tC, field7']), if_neg (by decide), if_neg (by decide)]; decide
theorem v1 : validP [tA] := validP.one tA_ok
theorem v2 : validP [tA, tB] := v1.app tB_ok rfl rfl (by decide) (by decide)
theorem v3 : validP [tA, tB, tC] := v2.app tC_ok rfl rfl (by decide) (by decide)
def cA : PChg := ⟨1, 2, 1, [⟨0, [2]⟩]⟩
def cB : PChg := ⟨2, 5, 2, [⟨1, [3]⟩]⟩
theorem pA : pubF [tA] cA = ([tA, tB], 0) := by
  have hc : checkC (lastT [tA]) cA = 0 := checkC_of tA_ok (by decide +kernel) rfl (by decide +kernel) (by decide +kernel)
  rw [pubF_ok v1 hc (by decide), applyF, if_neg (by simp [hc])]
  have : (⟨cA.tt, (lastT [tA]).p, (lastT [tA]).width, applyRows (lastT [tA]).rows cA⟩ : PTab) = tB := by decide +kernel
  rw [this]; rfl
theorem pB : pubF [tA, tB] cB = ([tA, tB, tC], 0) := by
  have hc : checkC (lastT [tA, tB]) cB = 0 := checkC_of tB_ok (by decide +kernel) rfl (by decide +kernel) (by decide +kernel)
  rw [pubF_ok v2 hc (by decide), applyF, if_neg (by simp [hc])]
  have : (⟨cB.tt, (lastT [tA, tB]).p, (lastT [tA, tB]).width, applyRows (lastT [tA, tB]).rows cB⟩ : PTab) = tC := by decide +kernel
  rw [this]; rfl
theorem sane37 : Does Try.prog 23 [] [] (B true) [] [] := by
  refine go_law37_sane rfl BxOK.nil fun cx hm0 => go_in 5000 ?_
  unfold ac_law37_sane rs_law37_sane
  have e1 := unew tA (okT_check tA_ok)
  rw [newP, if_neg (by simp [tA_ok])] at e1
  have e2 := upublish [tA] cA v1.okTs (by decide) (by intro s hs; simp [cA] at hs; subst hs; decide)
  rw [pA] at e2
  have e3 := upublish [tA, tB] cB v2.okTs (by decide) (by intro s hs; simp [cB] at hs; subst hs; decide)
  rw [pB] at e3
  have e4 := ukeep [tA, tB, tC] [] v3.okTs (by decide)
  rw [show keepF [tA, tB, tC] [] = [tC] by decide +kernel] at e4
  have e5 := ukeep [tA, tB, tC] [2] v3.okTs (by decide)
  rw [show keepF [tA, tB, tC] [2] = [tB, tC] by decide +kernel] at e5
  have vC : validP [tC] := validP.one tC_ok
  have e6 := unewest [tC] vC.okTs
  rw [newestF, if_neg (by simp [validB_yes vC])] at e6
  simp only [lastT, List.length_cons, List.length_nil, List.getD_cons_zero, Nat.zero_add, Nat.sub_self] at e6
  simp only [tA, tB, tC, cA, cB, List.map_cons, List.map_nil, eTab, eSet, eR, eI, dTabs, dSets, dRows, dInts, vPub, vTab, vChg] at e1 e2 e3 e4 e5 e6
  repeat' (first | simp (maxSteps := 9999999) only [↓GE, PL, PP, EE, QQ, seval, List.set_cons_zero, List.set_cons_succ, List.replicate] | (simp (disch := omega) only [IntWalk.i64_in]) | (refine go_brD (fun h => ?_) (fun h => ?_)) | (refine go_gsD (by ((try simp only [EE, QQ, seval]) <;> rfl)) (fun h => ?_) (fun h => ?_)) | (refine go_br (fun h => ?_) (fun h => ?_)) | (refine go_gs (by ((try simp only [EE, QQ, seval]) <;> rfl)) (fun h => ?_) (fun h => ?_)) | (apply go_call 5000 (e1) rfl rfl; (· ((try simp only [CC, LL, NM, EE, QQ, seval]) <;> (first | rfl | ((repeat constructor); done)))); (· exact CallForm.plain rfl); (· ((try simp only [CC, LL, NM, EE, QQ, seval]) <;> (first | rfl | ((repeat constructor); done)))); (· ((try simp only [CC, LL, NM, EE, QQ, seval]) <;> (first | rfl | ((repeat constructor); done))))) | (apply go_call 5000 (e2) rfl rfl; (· ((try simp only [CC, LL, NM, EE, QQ, seval]) <;> (first | rfl | ((repeat constructor); done)))); (· exact CallForm.plain rfl); (· ((try simp only [CC, LL, NM, EE, QQ, seval]) <;> (first | rfl | ((repeat constructor); done)))); (· ((try simp only [CC, LL, NM, EE, QQ, seval]) <;> (first | rfl | ((repeat constructor); done))))) | (apply go_call 5000 (e3) rfl rfl; (· ((try simp only [CC, LL, NM, EE, QQ, seval]) <;> (first | rfl | ((repeat constructor); done)))); (· exact CallForm.plain rfl); (· ((try simp only [CC, LL, NM, EE, QQ, seval]) <;> (first | rfl | ((repeat constructor); done)))); (· ((try simp only [CC, LL, NM, EE, QQ, seval]) <;> (first | rfl | ((repeat constructor); done))))) | (apply go_call 5000 (e4) rfl rfl; (· ((try simp only [CC, LL, NM, EE, QQ, seval]) <;> (first | rfl | ((repeat constructor); done)))); (· exact CallForm.plain rfl); (· ((try simp only [CC, LL, NM, EE, QQ, seval]) <;> (first | rfl | ((repeat constructor); done)))); (· ((try simp only [CC, LL, NM, EE, QQ, seval]) <;> (first | rfl | ((repeat constructor); done))))) | (apply go_call 5000 (e5) rfl rfl; (· ((try simp only [CC, LL, NM, EE, QQ, seval]) <;> (first | rfl | ((repeat constructor); done)))); (· exact CallForm.plain rfl); (· ((try simp only [CC, LL, NM, EE, QQ, seval]) <;> (first | rfl | ((repeat constructor); done)))); (· ((try simp only [CC, LL, NM, EE, QQ, seval]) <;> (first | rfl | ((repeat constructor); done))))) | (apply go_call 5000 (e6) rfl rfl; (· ((try simp only [CC, LL, NM, EE, QQ, seval]) <;> (first | rfl | ((repeat constructor); done)))); (· exact CallForm.plain rfl); (· ((try simp only [CC, LL, NM, EE, QQ, seval]) <;> (first | rfl | ((repeat constructor); done)))); (· ((try simp only [CC, LL, NM, EE, QQ, seval]) <;> (first | rfl | ((repeat constructor); done))))) | (with_reducible apply And.intro) | (with_reducible exact trivial) | omega | (simp only [List.length_map, List.length_cons, List.length_nil] at *; omega) | (show _ = true; first | rfl | kernel_rfl))
  all_goals ((first | apply ret_mk [] | apply end_mk []); (· ((try simp only [CC, LL, EE, QQ, seval]) <;> rfl)); (· ((try simp only [CC, LL, EE, QQ, seval]) <;> repeat' (first | (with_reducible apply And.intro) | rfl | trivial | (exact ⟨_, rfl⟩) | (exact ⟨_, _, _, rfl⟩) | (simp [*, ]; done) | (simp [*, ]; omega) | (simp_all []; done) | (simp_all []; omega)))); all_goals (first | trivial | decide | ((try simp only [CC, LL, EE, QQ, seval]) <;> repeat' (first | (with_reducible apply And.intro) | (exact ⟨_, rfl, rfl, rfl⟩) | (exact ⟨_, _, _, rfl⟩) | (exact ⟨_, rfl⟩) | trivial | rfl | (simp; done)))))
def tF (i : Nat) : PTab := ⟨i, 5, 1, [[1]]⟩
theorem tF_ok {i : Nat} (h : 1 ≤ i) (h2 : i ≤ 100) : checkT (tF i) = 0 := by
  rw [checkT, if_neg (by simp only [tF]; omega), if_neg (by simp [tF, field5]), if_neg (by simp [tF]), if_neg (by simp [tF])]
  show rowsErr 5 1 [[1]] = 0
  decide
def fullP : Nat → List PTab
  | 0 => []
  | i + 1 => fullP i ++ [tF (i + 1)]
theorem fullP_len : ∀ {i : Nat}, (fullP i).length = i
  | 0 => rfl
  | i + 1 => by rw [fullP, List.length_append, fullP_len]; rfl
theorem fullP_last {i : Nat} : lastT (fullP (i + 1)) = tF (i + 1) := by rw [fullP, lastT_app]
theorem fullP_valid : ∀ {i : Nat}, i < 16 → validP (fullP (i + 1))
  | 0, _ => (show validP [tF 1] from validP.one (tF_ok (i := 1) (by decide) (by decide)))
  | i + 1, h => by
    have ih := fullP_valid (i := i) (by omega)
    rw [fullP]
    refine ih.app (tF_ok (by omega) (by omega)) (by rw [fullP_last]; rfl) (by rw [fullP_last]; rfl) (by rw [fullP_last]; simp only [tF]; omega) (by rw [fullP_len]; omega)
theorem chg_form {a b : Int} (h1 : 1 ≤ a) (h2 : a < b) (h3 : b < 1000) : formF ⟨a, b, 1, []⟩ = true := by
  simp [formF, numF, formGo]; omega
theorem full_chk {i : Nat} (h : 1 ≤ i) (h2 : i ≤ 16) : checkC (tF i) ⟨i, i + 1, 1, []⟩ = 0 :=
  checkC_of (tF_ok h (by omega)) (chg_form (by omega) (by omega) (by omega)) rfl rfl (by simp [behindF, tF])
theorem full_step {i : Nat} (h : i < 15) : pubF (fullP (i + 1)) ⟨((i + 1 : Nat) : Int), ((i + 1 : Nat) : Int) + 1, 1, []⟩ = (fullP (i + 2), 0) := by
  have hc : checkC (lastT (fullP (i + 1))) ⟨((i + 1 : Nat) : Int), ((i + 1 : Nat) : Int) + 1, 1, []⟩ = 0 := by rw [fullP_last]; exact full_chk (by omega) (by omega)
  rw [pubF_ok (fullP_valid (by omega)) hc (by rw [fullP_len]; omega), applyF, if_neg (fun h => h hc), fullP_last]
  have : (⟨((i + 1 : Nat) : Int) + 1, (tF (i + 1)).p, (tF (i + 1)).width, applyRows (tF (i + 1)).rows ⟨((i + 1 : Nat) : Int), ((i + 1 : Nat) : Int) + 1, 1, []⟩⟩ : PTab) = tF (i + 2) := by
    simp only [tF, applyRows, findF]
    rfl
  simp only
  rw [this]; rfl
theorem lawFull (n : Int) (h1 : 0 ≤ n) (h2 : n ≤ 255) : Does Try.prog 5 [.d (.at (.int .u8 n))] [] (B true) [] [] := by
  refine go_law37_UpdateFull rfl BxOK.nil fun cx hm0 => go_in 5000 ?_
  unfold ac_law37_UpdateFull rs_law37_UpdateFull
  have e1 := unew (tF 1) (okT_check (tF_ok (by omega) (by omega)))
  rw [newP, if_neg (by simp [tF_ok (i := 1) (by omega) (by omega)])] at e1
  simp only [tF, List.map_cons, List.map_nil, eTab, eR, eI, dTabs, dRows, dInts, vPub, vTab] at e1
  have wn : IntKind.i64.wrap n = n := IntWalk.i64_in _ (by omega)
  obtain ⟨k, hk, hk2⟩ : ∃ k : Nat, n.tmod 2 = (k : Int) ∧ k ≤ 1 := by
    rw [Int.tmod_eq_emod_of_nonneg h1]
    exact ⟨(n % 2).toNat, by omega, by omega⟩
  repeat' (first | simp (maxSteps := 9999999) only [↓GE, PL, PP, EE, QQ, seval, wn, hk, List.set_cons_zero, List.set_cons_succ, List.replicate, List.length_map] | (simp (disch := omega) only [IntWalk.i64_in]) | (refine go_brD (fun h => ?_) (fun h => ?_)) | (refine go_gsD (by ((try simp only [EE, QQ, seval]) <;> rfl)) (fun h => ?_) (fun h => ?_)) | (refine go_br (fun h => ?_) (fun h => ?_)) | (refine go_gs (by ((try simp only [EE, QQ, seval]) <;> rfl)) (fun h => ?_) (fun h => ?_)) | (apply go_call 5000 (sane37) rfl rfl; (· ((try simp only [CC, LL, NM, EE, QQ, seval]) <;> (first | rfl | ((repeat constructor); done)))); (· exact CallForm.plain rfl); (· ((try simp only [CC, LL, NM, EE, QQ, seval]) <;> (first | rfl | ((repeat constructor); done)))); (· ((try simp only [CC, LL, NM, EE, QQ, seval]) <;> (first | rfl | ((repeat constructor); done))))) | (apply go_call 5000 (e1) rfl rfl; (· ((try simp only [CC, LL, NM, EE, QQ, seval]) <;> (first | rfl | ((repeat constructor); done)))); (· exact CallForm.plain rfl); (· ((try simp only [CC, LL, NM, EE, QQ, seval]) <;> (first | rfl | ((repeat constructor); done)))); (· ((try simp only [CC, LL, NM, EE, QQ, seval]) <;> (first | rfl | ((repeat constructor); done))))) | (with_reducible apply And.intro) | (with_reducible exact trivial) | omega | (simp only [List.length_map, List.length_cons, List.length_nil] at *; omega) | (show _ = true; first | rfl | kernel_rfl))
  refine go_loop 5000 hm0 (ι := {i : Nat // i + k ≤ 15}) (fun i => [(3, I k), (4, .bp 4 0 0), (5, I 0), (6, I ((i.1 + 1 : Nat) : Int))]) (fun i => [(4, .box 0 [.d (dTabs (fullP (i.1 + 1)))])]) (fun i => 15 - i.1) [] ⟨0, by omega⟩ ?_ ?_
  · (simp only [GeS]; refine ⟨?_, ?_, ?_, ?_⟩; all_goals (repeat' (first | trivial | (with_reducible rfl) | simp only [CC, LL, EE, QQ, seval] | (with_reducible apply And.intro) | rfl | (refine ⟨_, rfl, ?_⟩) | (simp [fullP, tF, eTab, eR, eI]; done) | omega)))
  · rintro ⟨i, hi⟩
    simp only
    have w1 : IntKind.i64.wrap (16 - (k : Int)) = 16 - (k : Int) := IntWalk.i64_in _ (by omega)
    have w2 : IntKind.i64.wrap (((i + 1 : Nat) : Int) + 1) = ((i + 1 : Nat) : Int) + 1 := IntWalk.i64_in _ (by omega)
    have hv := fullP_valid (i := i) (by omega)
    have e2 := upublish (fullP (i + 1)) ⟨((i + 1 : Nat) : Int), ((i + 1 : Nat) : Int) + 1, 1, []⟩ hv.okTs (by simp) (by intro s hs; cases hs)
    by_cases hik : i + k < 15
    · rw [full_step (by omega)] at e2
      have q : decide (((i + 1 : Nat) : Int) < 16 - (k : Int)) = true := decide_eq_true (by omega)
      have hz : ((i + 1 : Nat) : Int) + 1 = ((i + 1 + 1 : Nat) : Int) := by omega
      repeat' (first | simp (maxSteps := 9999999) only [↓GE, PL, PP, EE, QQ, seval, w1, w2, q] | (simp (disch := omega) only [IntWalk.i64_in]) | (refine go_brD (fun h => ?_) (fun h => ?_)) | (refine go_gsD (by ((try simp only [EE, QQ, seval]) <;> rfl)) (fun h => ?_) (fun h => ?_)) | (refine go_br (fun h => ?_) (fun h => ?_)) | (refine go_gs (by ((try simp only [EE, QQ, seval]) <;> rfl)) (fun h => ?_) (fun h => ?_)) | (apply go_call 5000 (e2) rfl rfl; (· ((try simp only [CC, LL, NM, EE, QQ, seval]) <;> (first | rfl | ((repeat constructor); done)))); (· exact CallForm.plain rfl); (· ((try simp only [CC, LL, NM, EE, QQ, seval]) <;> (first | rfl | ((repeat constructor); done)))); (· ((try simp only [CC, LL, NM, EE, QQ, seval]) <;> (first | rfl | ((repeat constructor); done))))) | (with_reducible apply And.intro) | (with_reducible exact trivial) | omega | (simp only [List.length_map, List.length_cons, List.length_nil] at *; omega) | (show _ = true; first | rfl | kernel_rfl))
      refine ⟨⟨i + 1, by omega⟩, ?_, by simp only; omega⟩
      (simp only [GeS]; refine ⟨?_, ?_, ?_, ?_⟩; all_goals (repeat' (first | trivial | (with_reducible rfl) | simp only [CC, LL, EE, QQ, seval] | (with_reducible apply And.intro) | rfl | (refine ⟨_, rfl, ?_⟩) | (simp [hz]; done) | omega)))
    · have q : decide (((i + 1 : Nat) : Int) < 16 - (k : Int)) = false := decide_eq_false (by omega)
      have hm : (16 : Int) - k = ((i + 1 : Nat) : Int) := by omega
      have e3 := upublish (fullP (i + 1)) ⟨1, ((i + 1 : Nat) : Int) + 1, 1, []⟩ hv.okTs (by simp) (by intro s hs; cases hs)
      have hc17 : checkC (lastT (fullP (i + 1))) ⟨1, ((i + 1 : Nat) : Int) + 1, 1, []⟩ = 17 := by
        rw [fullP_last, checkC, if_neg (by simp [tF_ok (i := i + 1) (by omega) (by omega)]), if_neg (by rw [chg_form (by omega) (by omega) (by omega)]; simp), if_pos (by simp only [tF]; omega)]
      rw [pubF_err hv (by rw [hc17]; decide), hc17] at e3
      rcases Nat.eq_zero_or_pos k with h0 | h0
      · subst h0
        obtain rfl : i = 15 := by omega
        rw [pubF_full hv (by rw [fullP_last]; exact full_chk (by omega) (by omega)) fullP_len] at e2
        repeat' (first | simp (maxSteps := 9999999) only [↓GE, PL, PP, EE, QQ, seval, w1, w2, q, hm] | (simp (disch := omega) only [IntWalk.i64_in]) | (refine go_brD (fun h => ?_) (fun h => ?_)) | (refine go_gsD (by ((try simp only [EE, QQ, seval]) <;> rfl)) (fun h => ?_) (fun h => ?_)) | (refine go_br (fun h => ?_) (fun h => ?_)) | (refine go_gs (by ((try simp only [EE, QQ, seval]) <;> rfl)) (fun h => ?_) (fun h => ?_)) | (apply go_call 5000 (e2) rfl rfl; (· ((try simp only [CC, LL, NM, EE, QQ, seval]) <;> (first | rfl | ((repeat constructor); done)))); (· exact CallForm.plain rfl); (· ((try simp only [CC, LL, NM, EE, QQ, seval]) <;> (first | rfl | ((repeat constructor); done)))); (· ((try simp only [CC, LL, NM, EE, QQ, seval]) <;> (first | rfl | ((repeat constructor); done))))) | (apply go_call 5000 (e3) rfl rfl; (· ((try simp only [CC, LL, NM, EE, QQ, seval]) <;> (first | rfl | ((repeat constructor); done)))); (· exact CallForm.plain rfl); (· ((try simp only [CC, LL, NM, EE, QQ, seval]) <;> (first | rfl | ((repeat constructor); done)))); (· ((try simp only [CC, LL, NM, EE, QQ, seval]) <;> (first | rfl | ((repeat constructor); done))))) | (with_reducible apply And.intro) | (with_reducible exact trivial) | omega | (simp only [List.length_map, List.length_cons, List.length_nil] at *; omega) | (show _ = true; first | rfl | kernel_rfl))
        all_goals ((first | apply ret_mk [] | apply end_mk []); (· ((try simp only [CC, LL, EE, QQ, seval]) <;> rfl)); (· ((try simp only [CC, LL, EE, QQ, seval]) <;> repeat' (first | (with_reducible apply And.intro) | rfl | trivial | (exact ⟨_, rfl⟩) | (exact ⟨_, _, _, rfl⟩) | (simp [*, ]; done) | (simp [*, ]; omega) | (simp_all []; done) | (simp_all []; omega)))); all_goals (first | trivial | decide | ((try simp only [CC, LL, EE, QQ, seval]) <;> repeat' (first | (with_reducible apply And.intro) | (exact ⟨_, rfl, rfl, rfl⟩) | (exact ⟨_, _, _, rfl⟩) | (exact ⟨_, rfl⟩) | trivial | rfl | (simp; done)))))
      · obtain rfl : k = 1 := by omega
        obtain rfl : i = 14 := by omega
        rw [full_step (by omega)] at e2
        repeat' (first | simp (maxSteps := 9999999) only [↓GE, PL, PP, EE, QQ, seval, w1, w2, q, hm] | (simp (disch := omega) only [IntWalk.i64_in]) | (refine go_brD (fun h => ?_) (fun h => ?_)) | (refine go_gsD (by ((try simp only [EE, QQ, seval]) <;> rfl)) (fun h => ?_) (fun h => ?_)) | (refine go_br (fun h => ?_) (fun h => ?_)) | (refine go_gs (by ((try simp only [EE, QQ, seval]) <;> rfl)) (fun h => ?_) (fun h => ?_)) | (apply go_call 5000 (e2) rfl rfl; (· ((try simp only [CC, LL, NM, EE, QQ, seval]) <;> (first | rfl | ((repeat constructor); done)))); (· exact CallForm.plain rfl); (· ((try simp only [CC, LL, NM, EE, QQ, seval]) <;> (first | rfl | ((repeat constructor); done)))); (· ((try simp only [CC, LL, NM, EE, QQ, seval]) <;> (first | rfl | ((repeat constructor); done))))) | (apply go_call 5000 (e3) rfl rfl; (· ((try simp only [CC, LL, NM, EE, QQ, seval]) <;> (first | rfl | ((repeat constructor); done)))); (· exact CallForm.plain rfl); (· ((try simp only [CC, LL, NM, EE, QQ, seval]) <;> (first | rfl | ((repeat constructor); done)))); (· ((try simp only [CC, LL, NM, EE, QQ, seval]) <;> (first | rfl | ((repeat constructor); done))))) | (with_reducible apply And.intro) | (with_reducible exact trivial) | omega | (simp only [List.length_map, List.length_cons, List.length_nil] at *; omega) | (show _ = true; first | rfl | kernel_rfl))
        all_goals ((first | apply ret_mk [] | apply end_mk []); (· ((try simp only [CC, LL, EE, QQ, seval]) <;> rfl)); (· ((try simp only [CC, LL, EE, QQ, seval]) <;> repeat' (first | (with_reducible apply And.intro) | rfl | trivial | (exact ⟨_, rfl⟩) | (exact ⟨_, _, _, rfl⟩) | (simp [*, ]; done) | (simp [*, ]; omega) | (simp_all []; done) | (simp_all []; omega)))); all_goals (first | trivial | decide | ((try simp only [CC, LL, EE, QQ, seval]) <;> repeat' (first | (with_reducible apply And.intro) | (exact ⟨_, rfl, rfl, rfl⟩) | (exact ⟨_, _, _, rfl⟩) | (exact ⟨_, rfl⟩) | trivial | rfl | (simp; done)))))
end Go.Proofs.Ytilkjcobkdjlkaa.Sim
