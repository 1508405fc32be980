/- Tables, later versions and changes out of lists of numbers. -/
import Derived.Test.YtpliidhbfjjofaaChgK
import Derived.Test.YtpliidhbfjjofaaChgL
namespace Go.Proofs.Ytpliidhbfjjofaa.Sim
open Go
set_option maxRecDepth 100000
set_option maxHeartbeats 4000000
set_option linter.unusedVariables false
set_option linter.unusedSimpArgs false
attribute [local irreducible] Go Mean
/-- A table in new memory. -/
abbrev vTn (t : PTab) : V := .ag [I t.num, I t.p, I t.width, .og 1000000 0]
abbrev oTn (t : PTab) : O := .arr 0 1 true (t.rows.map eR)
/-- A table that is small. -/
structure TabOK (t : PTab) (n : Nat) : Prop where
  fld : fieldB t.p = true
  p2 : 2 ≤ t.p
  p3 : t.p ≤ 65521
  num : 1 ≤ t.num
  num2 : t.num ≤ 10 + 5 * n
  w1 : 1 ≤ t.width
  w2 : t.width ≤ 4
  rows : RowsOK t.p t.width t.rows
  len : t.rows.length ≤ 7 + 3 * n
theorem TabOK.check {t : PTab} {n : Nat} (h : TabOK t n) (hn : n ≤ 100) : checkT t = 0 := by
  have h1 := h.num; have h2 := h.num2; have h3 := h.w1; have h4 := h.w2; have h5 := h.len
  rw [checkT, if_neg (by omega), if_neg (by simp [h.fld]), if_neg (by omega), if_neg (by omega)]
  exact (rowsErr_ok (by omega)).2 h.rows
theorem TabOK.short {t : PTab} {n : Nat} (h : TabOK t n) : Short t.rows := fun r hr => by
  have := (h.rows r hr).1; have := h.w2; omega
theorem TabOK.mono {t : PTab} {n m : Nat} (h : TabOK t n) (hm : n ≤ m) : TabOK t m :=
  ⟨h.fld, h.p2, h.p3, h.num, by have := h.num2; omega, h.w1, h.w2, h.rows, by have := h.len; omega⟩
def tabK3 (l : List Int) (k : Nat) : Nat := nextK l (nextK l (nextK l (nextK l k 9) 4) 9) 7
def tabG (l : List Int) (k : Nat) : PTab × Nat :=
  let R := rwG l (fldG l k) (1 + nextV l (nextK l k 9) 4) (tabK3 l k) (nextV l (nextK l (nextK l (nextK l k 9) 4) 9) 7).toNat
  (⟨1 + nextV l (nextK l (nextK l k 9) 4) 9, fldG l k, 1 + nextV l (nextK l k 9) 4, R.1⟩, R.2)
theorem tabG_ok (l : List Int) (k : Nat) : TabOK (tabG l k).1 0 := by
  obtain ⟨h1, h2, h3⟩ := fldG_ok l k
  have a1 := nextV_in l (nextK l k 9) 4
  have a2 := nextV_in l (nextK l (nextK l k 9) 4) 9
  have a3 := nextV_in l (nextK l (nextK l (nextK l k 9) 4) 9) 7
  exact ⟨h1, h2, h3, by simp only [tabG]; omega, by simp only [tabG]; omega, by simp only [tabG]; omega, by simp only [tabG]; omega, rwG_ok (show 1 ≤ fldG l k by omega), by simp only [tabG, rwG_len]; omega⟩
theorem makeTable (l : List Int) (hl : l.length ≤ 17592186044416) (k : Nat) : Does Try.prog 11 [dkp] (dk l k) (vTn (tabG l k).1) (dk l (tabG l k).2) [oTn (tabG l k).1] := by
  refine go_make_Table rfl BxOK.one fun cx hm0 => go_in 5000 ?_
  unfold ac_make_Table rs_make_Table
  have hok := tabG_ok l k
  have hN : newF (tabG l k).1 = ((tabG l k).1, 0) := by rw [newF, if_neg (by simp [hok.check (by omega)])]
  have hD := r14new (tabG l k).1 (by have := hok.len; omega) hok.short
  rw [hN] at hD
  obtain ⟨h1, h2, h3⟩ := fldG_ok l k
  have a1 := nextV_in l (nextK l k 9) 4
  have a2 := nextV_in l (nextK l (nextK l k 9) 4) 9
  have a3 := nextV_in l (nextK l (nextK l (nextK l k 9) 4) 9) 7
  have d1 := makeField l hl k
  have d2 := next l hl (nextK l k 9) 4 (by omega)
  have d3 := next l hl (nextK l (nextK l k 9) 4) 9 (by omega)
  have d4 := next l hl (nextK l (nextK l (nextK l k 9) 4) 9) 7 (by omega)
  have d5 := makeRows l hl (tabK3 l k) (fldG l k) (by omega) (nextV l (nextK l (nextK l (nextK l k 9) 4) 9) 7) (1 + nextV l (nextK l k 9) 4) (by omega) (by omega)
  simp only [tabK3] at d5
  simp only [tabG, tabK3] at hD ⊢
  repeat' (first | simp only [↓GE, PL, PP, EE, QQ, seval] | (simp (disch := omega) only [IntWalk.i64_in]) | (refine go_brD (fun h => ?_) (fun h => ?_)) | (refine go_gsD (by ((try simp only [EE, QQ, seval]) <;> rfl)) (fun h => ?_) (fun h => ?_)) | (refine go_br (fun h => ?_) (fun h => ?_)) | (refine go_gs (by ((try simp only [EE, QQ, seval]) <;> rfl)) (fun h => ?_) (fun h => ?_)) | (apply go_call 5000 (d1) rfl rfl; (· ((try simp only [CC, EE, QQ, seval]) <;> (first | rfl | ((repeat constructor); done)))); (· exact CallForm.box1 (by first | decide | (refine ⟨by decide, ?_⟩; first | (right; simp; done) | (left; simp; done))) (by ((try simp only [EE, QQ, seval]) <;> rfl)) rfl rfl rfl rfl); (· ((try simp only [CC, EE, QQ, seval]) <;> (first | rfl | ((repeat constructor); done)))); (· ((try simp only [CC, EE, QQ, seval]) <;> (first | rfl | ((repeat constructor); done))))) | (apply go_call 5000 (d2) rfl rfl; (· ((try simp only [CC, EE, QQ, seval]) <;> (first | rfl | ((repeat constructor); done)))); (· exact CallForm.box1 (by first | decide | (refine ⟨by decide, ?_⟩; first | (right; simp; done) | (left; simp; done))) (by ((try simp only [EE, QQ, seval]) <;> rfl)) rfl rfl rfl rfl); (· ((try simp only [CC, EE, QQ, seval]) <;> (first | rfl | ((repeat constructor); done)))); (· ((try simp only [CC, EE, QQ, seval]) <;> (first | rfl | ((repeat constructor); done))))) | (apply go_call 5000 (d3) rfl rfl; (· ((try simp only [CC, EE, QQ, seval]) <;> (first | rfl | ((repeat constructor); done)))); (· exact CallForm.box1 (by first | decide | (refine ⟨by decide, ?_⟩; first | (right; simp; done) | (left; simp; done))) (by ((try simp only [EE, QQ, seval]) <;> rfl)) rfl rfl rfl rfl); (· ((try simp only [CC, EE, QQ, seval]) <;> (first | rfl | ((repeat constructor); done)))); (· ((try simp only [CC, EE, QQ, seval]) <;> (first | rfl | ((repeat constructor); done))))) | (apply go_call 5000 (d4) rfl rfl; (· ((try simp only [CC, EE, QQ, seval]) <;> (first | rfl | ((repeat constructor); done)))); (· exact CallForm.box1 (by first | decide | (refine ⟨by decide, ?_⟩; first | (right; simp; done) | (left; simp; done))) (by ((try simp only [EE, QQ, seval]) <;> rfl)) rfl rfl rfl rfl); (· ((try simp only [CC, EE, QQ, seval]) <;> (first | rfl | ((repeat constructor); done)))); (· ((try simp only [CC, EE, QQ, seval]) <;> (first | rfl | ((repeat constructor); done))))) | (apply go_call 5000 (d5) rfl rfl; (· ((try simp only [CC, EE, QQ, seval]) <;> (first | rfl | ((repeat constructor); done)))); (· exact CallForm.box1 (by first | decide | (refine ⟨by decide, ?_⟩; first | (right; simp; done) | (left; simp; done))) (by ((try simp only [EE, QQ, seval]) <;> rfl)) rfl rfl rfl rfl); (· ((try simp only [CC, EE, QQ, seval]) <;> (first | rfl | ((repeat constructor); done)))); (· ((try simp only [CC, EE, QQ, seval]) <;> (first | rfl | ((repeat constructor); done))))) | (apply go_call 5000 (hD) rfl rfl; (· ((try simp only [CC, EE, QQ, seval]) <;> (first | rfl | ((repeat constructor); done)))); (· exact CallForm.news rfl rfl); (· ((try simp only [CC, EE, QQ, seval]) <;> (first | rfl | ((repeat constructor); done)))); (· ((try simp only [CC, EE, QQ, seval]) <;> (first | rfl | ((repeat constructor); done))))) | (with_reducible apply And.intro) | (with_reducible exact trivial) | omega | (simp only [List.length_map, List.length_cons, List.length_nil] at *; omega) | (show _ = true; first | rfl | kernel_rfl))
  all_goals ((first | apply ret_mk [some 26000] | apply end_mk [some 26000]); (· ((try simp only [CC, EE, QQ, seval]) <;> rfl)); (· ((try simp only [CC, EE, QQ, seval]) <;> repeat' (first | (with_reducible apply And.intro) | rfl | trivial | (exact ⟨_, rfl⟩) | (exact ⟨_, _, _, rfl⟩) | (simp [*, ]; done) | (simp [*, ]; omega) | (simp_all []; done) | (simp_all []; omega)))); all_goals (first | trivial | decide | ((try simp only [CC, EE, QQ, seval]) <;> repeat' (first | (with_reducible apply And.intro) | (exact ⟨_, rfl, rfl, rfl⟩) | (exact ⟨_, _, _, rfl⟩) | (exact ⟨_, rfl⟩) | trivial | rfl | (simp; done)))))
def latStep (l : List Int) (p w : Int) (s : List (List Int) × Nat) : List (List Int) × Nat :=
  let k1 := nextK l s.2 3
  if nextV l s.2 3 = 0 then (s.1 ++ [(elG l p k1 w.toNat).1], (elG l p k1 w.toNat).2)
  else if s.1.length = 0 then (s.1, k1)
  else
    let k2 := nextK l k1 4
    if nextV l k1 4 = 0 then (s.1.take (s.1.length - 1), k2)
    else
      let k3 := nextK l k2 s.1.length
      (s.1.set (nextV l k2 s.1.length).toNat (elG l p k3 w.toNat).1, (elG l p k3 w.toNat).2)
def latI (l : List Int) (p w : Int) : Nat → List (List Int) × Nat → List (List Int) × Nat
  | 0, s => s
  | n + 1, s => latI l p w n (latStep l p w s)
theorem latStep_ok {l : List Int} {p w : Int} (hp : 1 ≤ p) {s : List (List Int) × Nat} (h : RowsOK p w s.1) : RowsOK p w (latStep l p w s).1 ∧ (latStep l p w s).1.length ≤ s.1.length + 1 := by
  unfold latStep
  simp only
  split
  · refine ⟨fun r hr => ?_, by simp⟩
    rcases List.mem_append.1 hr with hr | hr
    · exact h r hr
    · simp only [List.mem_singleton] at hr
      subst hr
      exact ⟨elG_len, elG_in hp⟩
  · split
    · exact ⟨h, by simp⟩
    · split
      · exact ⟨fun r hr => h r (List.mem_of_mem_take hr), by simp; omega⟩
      · refine ⟨fun r hr => ?_, by simp⟩
        rcases List.mem_or_eq_of_mem_set hr with hr | hr
        · exact h r hr
        · subst hr
          exact ⟨elG_len, elG_in hp⟩
theorem latI_ok {l : List Int} {p w : Int} (hp : 1 ≤ p) : ∀ {n : Nat} {s : List (List Int) × Nat}, RowsOK p w s.1 → RowsOK p w (latI l p w n s).1 ∧ (latI l p w n s).1.length ≤ s.1.length + n
  | 0, s, h => ⟨h, Nat.le_refl _⟩
  | n + 1, s, h => by
    obtain ⟨h1, h2⟩ := latStep_ok (l := l) hp h
    obtain ⟨h3, h4⟩ := latI_ok (n := n) hp h1
    exact ⟨h3, by rw [latI]; omega⟩
def latG (l : List Int) (k : Nat) (t : PTab) : PTab × Nat :=
  let s := latI l t.p t.width (nextV l k 4).toNat (t.rows, nextK l k 4)
  (⟨t.num + 1 + nextV l s.2 3, t.p, t.width, s.1⟩, nextK l s.2 3)
theorem latG_ok (l : List Int) (k : Nat) {t : PTab} {n : Nat} (h : TabOK t n) : TabOK (latG l k t).1 (n + 1) := by
  have a1 := nextV_in l k 4
  have a2 := nextV_in l (latI l t.p t.width (nextV l k 4).toNat (t.rows, nextK l k 4)).2 3
  have hp := h.p2
  obtain ⟨h1, h2⟩ := latI_ok (l := l) (p := t.p) (w := t.width) (by omega) (n := (nextV l k 4).toNat) (s := (t.rows, nextK l k 4)) h.rows
  have := h.num; have := h.num2; have := h.len
  exact ⟨h.fld, h.p2, h.p3, by simp only [latG]; omega, by simp only [latG]; omega, h.w1, h.w2, h1, by simp only [latG] at h2 ⊢; omega⟩
theorem latG_later (l : List Int) (k : Nat) (t : PTab) : t.num < (latG l k t).1.num ∧ (latG l k t).1.p = t.p ∧ (latG l k t).1.width = t.width := by
  have a2 := nextV_in l (latI l t.p t.width (nextV l k 4).toNat (t.rows, nextK l k 4)).2 3
  exact ⟨by simp only [latG]; omega, rfl, rfl⟩
theorem makeLater (l : List Int) (hl : l.length ≤ 17592186044416) (k : Nat) (t : PTab) {n : Nat} (h : TabOK t n) (hn : n ≤ 50) : Does Try.prog 12 [dkp, vTab t] (dk l k) (vTn (latG l k t).1) (dk l (latG l k t).2) [oTn (latG l k t).1] := by
  refine go_make_Later rfl BxOK.one fun cx hm0 => go_in 5000 ?_
  unfold ac_make_Later rs_make_Later
  have hp := h.p2; have hp3 := h.p3; have hw1 := h.w1; have hw2 := h.w2; have hlen := h.len; have hnum := h.num; have hnum2 := h.num2
  have a1 := nextV_in l k 4
  have d1 := next l hl k 4 (by omega)
  have hN : newF (latG l k t).1 = ((latG l k t).1, 0) := by rw [newF, if_neg (by simp [(latG_ok l k h).check (by omega)])]
  have hD := r14new (latG l k t).1 (by have := (latG_ok l k h).len; omega) (latG_ok l k h).short
  rw [hN] at hD
  have a2 := nextV_in l (latI l t.p t.width (nextV l k 4).toNat (t.rows, nextK l k 4)).2 3
  have d2 := next l hl (latI l t.p t.width (nextV l k 4).toNat (t.rows, nextK l k 4)).2 3 (by omega)
  simp only [latG] at hD ⊢
  obtain ⟨c, hc⟩ : ∃ c : Nat, nextV l k 4 = (c : Int) := ⟨(nextV l k 4).toNat, by omega⟩
  simp only [hc, Int.toNat_natCast] at a1 a2 d1 d2 hD ⊢
  generalize hL : latI l t.p t.width c (t.rows, nextK l k 4) = fin at a2 d2 hD ⊢
  repeat' (first | simp only [↓GE, PL, PP, EE, QQ, seval] | (simp (disch := omega) only [IntWalk.i64_in]) | (refine go_brD (fun h => ?_) (fun h => ?_)) | (refine go_gsD (by ((try simp only [EE, QQ, seval]) <;> rfl)) (fun h => ?_) (fun h => ?_)) | (refine go_br (fun h => ?_) (fun h => ?_)) | (refine go_gs (by ((try simp only [EE, QQ, seval]) <;> rfl)) (fun h => ?_) (fun h => ?_)) | (apply go_call 5000 (r14rows t.rows (by omega) h.short) rfl rfl; (· ((try simp only [CC, EE, QQ, seval]) <;> (first | rfl | ((repeat constructor); done)))); (· exact CallForm.news rfl rfl); (· ((try simp only [CC, EE, QQ, seval]) <;> (first | rfl | ((repeat constructor); done)))); (· ((try simp only [CC, EE, QQ, seval]) <;> (first | rfl | ((repeat constructor); done))))) | (apply go_call 5000 (d1) rfl rfl; (· ((try simp only [CC, EE, QQ, seval]) <;> (first | rfl | ((repeat constructor); done)))); (· exact CallForm.box1 (by first | decide | (refine ⟨by decide, ?_⟩; first | (right; simp; done) | (left; simp; done))) (by ((try simp only [EE, QQ, seval]) <;> rfl)) rfl rfl rfl rfl); (· ((try simp only [CC, EE, QQ, seval]) <;> (first | rfl | ((repeat constructor); done)))); (· ((try simp only [CC, EE, QQ, seval]) <;> (first | rfl | ((repeat constructor); done))))) | (with_reducible apply And.intro) | (with_reducible exact trivial) | omega | (simp only [List.length_map, List.length_cons, List.length_nil] at *; omega) | (show _ = true; first | rfl | kernel_rfl))
  refine go_loop 5000 hm0 (ι := {p : Nat × Nat × List (List Int) × Nat // p.1 ≤ c ∧ RowsOK t.p t.width p.2.2.1 ∧ p.2.2.1.length + p.1 ≤ 10 + 3 * n ∧ latI l t.p t.width p.1 p.2.2 = fin}) (fun i => [(0, .bp 900000 0 0), (3, .bp 3 0 0), (4, .bp 4 0 0), (5, .og 13000 i.1.2.1), (6, I i.1.1)]) (fun i => [(3, .box 0 [I t.num, I t.p, I t.width, .d (dRows t.rows)]), (4, .box 0 [I 0, I 0, I 0, .nl 1]), (13000, .arr i.1.2.1 1 true (i.1.2.2.1.map eR)), (900000, .box 0 [.d (dInts l), I i.1.2.2.2])]) (fun i => i.1.1) [] ⟨(c, 0, t.rows, nextK l k 4), Nat.le_refl _, h.rows, by simp only; omega, hL⟩ ?_ ?_
  · (simp only [GeS]; refine ⟨?_, ?_, ?_, ?_⟩; all_goals (repeat' (first | trivial | (with_reducible rfl) | simp only [CC, EE, QQ, seval] | (with_reducible apply And.intro) | rfl | (refine ⟨_, rfl, ?_⟩) | (simp; done) | omega)))
  · rintro ⟨⟨j, v, rows, k1⟩, hj, hr, hrl, hv⟩
    simp only at hj hr hrl hv
    cases j with
    | zero =>
      simp only [latI] at hv
      subst hv
      simp only at *
      repeat' (first | simp only [↓GE, PL, PP, EE, QQ, seval] | (simp (disch := omega) only [IntWalk.i64_in]) | (refine go_brD (fun h => ?_) (fun h => ?_)) | (refine go_gsD (by ((try simp only [EE, QQ, seval]) <;> rfl)) (fun h => ?_) (fun h => ?_)) | (refine go_br (fun h => ?_) (fun h => ?_)) | (refine go_gs (by ((try simp only [EE, QQ, seval]) <;> rfl)) (fun h => ?_) (fun h => ?_)) | (apply go_call 5000 (d2) rfl rfl; (· ((try simp only [CC, EE, QQ, seval]) <;> (first | rfl | ((repeat constructor); done)))); (· exact CallForm.box1 (by first | decide | (refine ⟨by decide, ?_⟩; first | (right; simp; done) | (left; simp; done))) (by ((try simp only [EE, QQ, seval]) <;> rfl)) rfl rfl rfl rfl); (· ((try simp only [CC, EE, QQ, seval]) <;> (first | rfl | ((repeat constructor); done)))); (· ((try simp only [CC, EE, QQ, seval]) <;> (first | rfl | ((repeat constructor); done))))) | (apply go_call 5000 (hD) rfl rfl; (· ((try simp only [CC, EE, QQ, seval]) <;> (first | rfl | ((repeat constructor); done)))); (· exact CallForm.news rfl rfl); (· ((try simp only [CC, EE, QQ, seval]) <;> (first | rfl | ((repeat constructor); done)))); (· ((try simp only [CC, EE, QQ, seval]) <;> (first | rfl | ((repeat constructor); done))))) | (with_reducible apply And.intro) | (with_reducible exact trivial) | omega | (simp only [List.length_map, List.length_cons, List.length_nil] at *; omega) | (show _ = true; first | rfl | kernel_rfl))
      all_goals ((first | apply ret_mk [some 75000] | apply end_mk [some 75000]); (· ((try simp only [CC, EE, QQ, seval]) <;> rfl)); (· ((try simp only [CC, EE, QQ, seval]) <;> repeat' (first | (with_reducible apply And.intro) | rfl | trivial | (exact ⟨_, rfl⟩) | (exact ⟨_, _, _, rfl⟩) | (simp [*, ]; done) | (simp [*, ]; omega) | (simp_all []; done) | (simp_all []; omega)))); all_goals (first | trivial | decide | ((try simp only [CC, EE, QQ, seval]) <;> repeat' (first | (with_reducible apply And.intro) | (exact ⟨_, rfl, rfl, rfl⟩) | (exact ⟨_, _, _, rfl⟩) | (exact ⟨_, rfl⟩) | trivial | rfl | (simp; done)))))
    | succ j =>
      obtain ⟨hs1, hs2⟩ := latStep_ok (l := l) (p := t.p) (w := t.width) (by omega) (s := (rows, k1)) hr
      rw [latI] at hv
      have b1 := nextV_in l k1 3
      have e1 := next l hl k1 3 (by omega)
      have q0 : decide (((j + 1 : Nat) : Int) > 0) = true := decide_eq_true (by omega)
      by_cases c1 : nextV l k1 3 = 0
      · have q1 : (nextV l k1 3 == 0) = true := by simpa using c1
        have e2 := elements l hl (nextK l k1 3) t.p (by omega) t.width (by omega)
        have hst : latStep l t.p t.width (rows, k1) = (rows ++ [(elG l t.p (nextK l k1 3) t.width.toNat).1], (elG l t.p (nextK l k1 3) t.width.toNat).2) := by simp [latStep, c1]
        rw [hst] at hs1 hs2 hv
        simp only at hs1 hs2
        repeat' (first | simp only [↓GE, PL, PP, EE, QQ, seval, q0, q1, List.length_map] | (simp (disch := omega) only [IntWalk.i64_in]) | (refine go_brD (fun h => ?_) (fun h => ?_)) | (refine go_gsD (by ((try simp only [EE, QQ, seval]) <;> rfl)) (fun h => ?_) (fun h => ?_)) | (refine go_br (fun h => ?_) (fun h => ?_)) | (refine go_gs (by ((try simp only [EE, QQ, seval]) <;> rfl)) (fun h => ?_) (fun h => ?_)) | (apply go_call 5000 (e1) rfl rfl; (· ((try simp only [CC, EE, QQ, seval]) <;> (first | rfl | ((repeat constructor); done)))); (· exact CallForm.box1 (by first | decide | (refine ⟨by decide, ?_⟩; first | (right; simp; done) | (left; simp; done))) (by ((try simp only [EE, QQ, seval]) <;> rfl)) rfl rfl rfl rfl); (· ((try simp only [CC, EE, QQ, seval]) <;> (first | rfl | ((repeat constructor); done)))); (· ((try simp only [CC, EE, QQ, seval]) <;> (first | rfl | ((repeat constructor); done))))) | (apply go_call 5000 (e2) rfl rfl; (· ((try simp only [CC, EE, QQ, seval]) <;> (first | rfl | ((repeat constructor); done)))); (· exact CallForm.box1 (by first | decide | (refine ⟨by decide, ?_⟩; first | (right; simp; done) | (left; simp; done))) (by ((try simp only [EE, QQ, seval]) <;> rfl)) rfl rfl rfl rfl); (· ((try simp only [CC, EE, QQ, seval]) <;> (first | rfl | ((repeat constructor); done)))); (· ((try simp only [CC, EE, QQ, seval]) <;> (first | rfl | ((repeat constructor); done))))) | (with_reducible apply And.intro) | (with_reducible exact trivial) | omega | (simp only [List.length_map, List.length_cons, List.length_nil] at *; omega) | (show _ = true; first | rfl | kernel_rfl))
        refine ⟨⟨(j, v + 1, rows ++ [(elG l t.p (nextK l k1 3) t.width.toNat).1], (elG l t.p (nextK l k1 3) t.width.toNat).2), by simp only; omega, hs1, by simp only; omega, hv⟩, ?_, by simp only; omega⟩
        (simp only [GeS]; refine ⟨?_, ?_, ?_, ?_⟩; all_goals (repeat' (first | trivial | (with_reducible rfl) | simp only [CC, EE, QQ, seval] | (with_reducible apply And.intro) | rfl | (refine ⟨_, rfl, ?_⟩) | (simp [eR]; done) | omega)))
      · have q1 : (nextV l k1 3 == 0) = false := by simpa using c1
        by_cases c2 : rows.length = 0
        · have q2 : decide ((rows.length : Int) > 0) = false := decide_eq_false (by omega)
          have hst : latStep l t.p t.width (rows, k1) = (rows, nextK l k1 3) := by simp only [latStep]; rw [if_neg c1, if_pos c2]
          rw [hst] at hs1 hs2 hv
          simp only at hs1 hs2
          repeat' (first | simp only [↓GE, PL, PP, EE, QQ, seval, q0, q1, q2, List.length_map] | (simp (disch := omega) only [IntWalk.i64_in]) | (refine go_brD (fun h => ?_) (fun h => ?_)) | (refine go_gsD (by ((try simp only [EE, QQ, seval]) <;> rfl)) (fun h => ?_) (fun h => ?_)) | (refine go_br (fun h => ?_) (fun h => ?_)) | (refine go_gs (by ((try simp only [EE, QQ, seval]) <;> rfl)) (fun h => ?_) (fun h => ?_)) | (apply go_call 5000 (e1) rfl rfl; (· ((try simp only [CC, EE, QQ, seval]) <;> (first | rfl | ((repeat constructor); done)))); (· exact CallForm.box1 (by first | decide | (refine ⟨by decide, ?_⟩; first | (right; simp; done) | (left; simp; done))) (by ((try simp only [EE, QQ, seval]) <;> rfl)) rfl rfl rfl rfl); (· ((try simp only [CC, EE, QQ, seval]) <;> (first | rfl | ((repeat constructor); done)))); (· ((try simp only [CC, EE, QQ, seval]) <;> (first | rfl | ((repeat constructor); done))))) | (with_reducible apply And.intro) | (with_reducible exact trivial) | omega | (simp only [List.length_map, List.length_cons, List.length_nil] at *; omega) | (show _ = true; first | rfl | kernel_rfl))
          refine ⟨⟨(j, v, rows, nextK l k1 3), by simp only; omega, hs1, by simp only; omega, hv⟩, ?_, by simp only; omega⟩
          (simp only [GeS]; refine ⟨?_, ?_, ?_, ?_⟩; all_goals (repeat' (first | trivial | (with_reducible rfl) | simp only [CC, EE, QQ, seval] | (with_reducible apply And.intro) | rfl | (refine ⟨_, rfl, ?_⟩) | (simp [eR]; done) | omega)))
        · have q2 : decide ((rows.length : Int) > 0) = true := decide_eq_true (by omega)
          have b2 := nextV_in l (nextK l k1 3) 4
          have e2 := next l hl (nextK l k1 3) 4 (by omega)
          by_cases c3 : nextV l (nextK l k1 3) 4 = 0
          · have q3 : (nextV l (nextK l k1 3) 4 == 0) = true := by simpa using c3
            have hst : latStep l t.p t.width (rows, k1) = (rows.take (rows.length - 1), nextK l (nextK l k1 3) 4) := by simp only [latStep]; rw [if_neg c1, if_neg c2, if_pos c3]
            rw [hst] at hs1 hs2 hv
            simp only at hs1 hs2
            have q4 : ((rows.length : Int) - 1).toNat = rows.length - 1 := by omega
            repeat' (first | simp only [↓GE, PL, PP, EE, QQ, seval, q0, q1, q2, q3, q4, List.length_map] | (simp (disch := omega) only [IntWalk.i64_in]) | (refine go_brD (fun h => ?_) (fun h => ?_)) | (refine go_gsD (by ((try simp only [EE, QQ, seval]) <;> rfl)) (fun h => ?_) (fun h => ?_)) | (refine go_br (fun h => ?_) (fun h => ?_)) | (refine go_gs (by ((try simp only [EE, QQ, seval]) <;> rfl)) (fun h => ?_) (fun h => ?_)) | (apply go_call 5000 (e1) rfl rfl; (· ((try simp only [CC, EE, QQ, seval]) <;> (first | rfl | ((repeat constructor); done)))); (· exact CallForm.box1 (by first | decide | (refine ⟨by decide, ?_⟩; first | (right; simp; done) | (left; simp; done))) (by ((try simp only [EE, QQ, seval]) <;> rfl)) rfl rfl rfl rfl); (· ((try simp only [CC, EE, QQ, seval]) <;> (first | rfl | ((repeat constructor); done)))); (· ((try simp only [CC, EE, QQ, seval]) <;> (first | rfl | ((repeat constructor); done))))) | (apply go_call 5000 (e2) rfl rfl; (· ((try simp only [CC, EE, QQ, seval]) <;> (first | rfl | ((repeat constructor); done)))); (· exact CallForm.box1 (by first | decide | (refine ⟨by decide, ?_⟩; first | (right; simp; done) | (left; simp; done))) (by ((try simp only [EE, QQ, seval]) <;> rfl)) rfl rfl rfl rfl); (· ((try simp only [CC, EE, QQ, seval]) <;> (first | rfl | ((repeat constructor); done)))); (· ((try simp only [CC, EE, QQ, seval]) <;> (first | rfl | ((repeat constructor); done))))) | (with_reducible apply And.intro) | (with_reducible exact trivial) | omega | (simp only [List.length_map, List.length_cons, List.length_nil] at *; omega) | (show _ = true; first | rfl | kernel_rfl))
            refine ⟨⟨(j, v + 1, rows.take (rows.length - 1), nextK l (nextK l k1 3) 4), by simp only; omega, hs1, by simp only; omega, hv⟩, ?_, by simp only; omega⟩
            (simp only [GeS]; refine ⟨?_, ?_, ?_, ?_⟩; all_goals (repeat' (first | trivial | (with_reducible rfl) | simp only [CC, EE, QQ, seval] | (with_reducible apply And.intro) | rfl | (refine ⟨_, rfl, ?_⟩) | (simp [List.map_take]; done) | omega)))
          · have q3 : (nextV l (nextK l k1 3) 4 == 0) = false := by simpa using c3
            have b3 := nextV_in l (nextK l (nextK l k1 3) 4) rows.length
            have e3 := next l hl (nextK l (nextK l k1 3) 4) rows.length (by omega)
            have e4 := elements l hl (nextK l (nextK l (nextK l k1 3) 4) rows.length) t.p (by omega) t.width (by omega)
            have hst : latStep l t.p t.width (rows, k1) = (rows.set (nextV l (nextK l (nextK l k1 3) 4) rows.length).toNat (elG l t.p (nextK l (nextK l (nextK l k1 3) 4) rows.length) t.width.toNat).1, (elG l t.p (nextK l (nextK l (nextK l k1 3) 4) rows.length) t.width.toNat).2) := by simp only [latStep]; rw [if_neg c1, if_neg c2, if_neg c3]
            rw [hst] at hs1 hs2 hv
            simp only at hs1 hs2
            have hs3 := getD_map eR [] [] rows (nextV l (nextK l (nextK l k1 3) 4) rows.length).toNat (by omega)
            have qk : (nextV l (nextK l (nextK l k1 3) 4) rows.length).toNat < rows.length := by omega
            repeat' (first | simp only [↓GE, PL, PP, EE, QQ, seval, q0, q1, q2, q3, hs3, qk, eR, List.length_map] | (simp (disch := omega) only [IntWalk.i64_in]) | (refine go_brD (fun h => ?_) (fun h => ?_)) | (refine go_gsD (by ((try simp only [EE, QQ, seval]) <;> rfl)) (fun h => ?_) (fun h => ?_)) | (refine go_br (fun h => ?_) (fun h => ?_)) | (refine go_gs (by ((try simp only [EE, QQ, seval]) <;> rfl)) (fun h => ?_) (fun h => ?_)) | (apply go_call 5000 (e1) rfl rfl; (· ((try simp only [CC, EE, QQ, seval]) <;> (first | rfl | ((repeat constructor); done)))); (· exact CallForm.box1 (by first | decide | (refine ⟨by decide, ?_⟩; first | (right; simp; done) | (left; simp; done))) (by ((try simp only [EE, QQ, seval]) <;> rfl)) rfl rfl rfl rfl); (· ((try simp only [CC, EE, QQ, seval]) <;> (first | rfl | ((repeat constructor); done)))); (· ((try simp only [CC, EE, QQ, seval]) <;> (first | rfl | ((repeat constructor); done))))) | (apply go_call 5000 (e2) rfl rfl; (· ((try simp only [CC, EE, QQ, seval]) <;> (first | rfl | ((repeat constructor); done)))); (· exact CallForm.box1 (by first | decide | (refine ⟨by decide, ?_⟩; first | (right; simp; done) | (left; simp; done))) (by ((try simp only [EE, QQ, seval]) <;> rfl)) rfl rfl rfl rfl); (· ((try simp only [CC, EE, QQ, seval]) <;> (first | rfl | ((repeat constructor); done)))); (· ((try simp only [CC, EE, QQ, seval]) <;> (first | rfl | ((repeat constructor); done))))) | (apply go_call 5000 (e3) rfl rfl; (· ((try simp only [CC, EE, QQ, seval]) <;> (first | rfl | ((repeat constructor); done)))); (· exact CallForm.box1 (by first | decide | (refine ⟨by decide, ?_⟩; first | (right; simp; done) | (left; simp; done))) (by ((try simp only [EE, QQ, seval]) <;> rfl)) rfl rfl rfl rfl); (· ((try simp only [CC, EE, QQ, seval]) <;> (first | rfl | ((repeat constructor); done)))); (· ((try simp only [CC, EE, QQ, seval]) <;> (first | rfl | ((repeat constructor); done))))) | (apply go_call 5000 (e4) rfl rfl; (· ((try simp only [CC, EE, QQ, seval]) <;> (first | rfl | ((repeat constructor); done)))); (· exact CallForm.box1 (by first | decide | (refine ⟨by decide, ?_⟩; first | (right; simp; done) | (left; simp; done))) (by ((try simp only [EE, QQ, seval]) <;> rfl)) rfl rfl rfl rfl); (· ((try simp only [CC, EE, QQ, seval]) <;> (first | rfl | ((repeat constructor); done)))); (· ((try simp only [CC, EE, QQ, seval]) <;> (first | rfl | ((repeat constructor); done))))) | (with_reducible apply And.intro) | (with_reducible exact trivial) | omega | (simp only [List.length_map, List.length_cons, List.length_nil] at *; omega) | (show _ = true; first | rfl | kernel_rfl))
            refine ⟨⟨(j, v, rows.set (nextV l (nextK l (nextK l k1 3) 4) rows.length).toNat (elG l t.p (nextK l (nextK l (nextK l k1 3) 4) rows.length) t.width.toNat).1, (elG l t.p (nextK l (nextK l (nextK l k1 3) 4) rows.length) t.width.toNat).2), by simp only; omega, hs1, by simp only; omega, hv⟩, ?_, by simp only; omega⟩
            (simp only [GeS]; refine ⟨?_, ?_, ?_, ?_⟩; all_goals (repeat' (first | trivial | (with_reducible rfl) | simp only [CC, EE, QQ, seval] | (with_reducible apply And.intro) | rfl | (refine ⟨_, rfl, ?_⟩) | (simp [List.map_set, eR]; done) | omega)))
end Go.Proofs.Ytpliidhbfjjofaa.Sim
