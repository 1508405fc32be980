/- Dice: changes. -/
import Derived.Test.YtilkjcobkdjlkaaUhB
namespace Go.Proofs.Ytilkjcobkdjlkaa.Sim
open Go
set_option maxRecDepth 100000
set_option maxHeartbeats 4000000
set_option linter.unusedVariables false
set_option linter.unusedSimpArgs false
attribute [local irreducible] Go Mean
/-- Rows, some of them new. -/
def mixG (l : List UInt8) (p : Int) (w : Nat) (rows : List (List Int)) (k : Nat) : Nat → List (List Int) × Nat
  | 0 => ([], k)
  | n + 1 =>
    let s := mixG l p w rows k n
    if pickV l s.2 3 > 0 then (s.1 ++ [rows.getD n []], pickK l s.2) else (s.1 ++ [(elmG l p (pickK l s.2) w).1], (elmG l p (pickK l s.2) w).2)
theorem mixG_len {l : List UInt8} {p : Int} {w k : Nat} {rows : List (List Int)} : ∀ {n : Nat}, (mixG l p w rows k n).1.length = n
  | 0 => rfl
  | n + 1 => by
    have := mixG_len (l := l) (p := p) (w := w) (k := k) (rows := rows) (n := n)
    rw [mixG]; split <;> simp [this]
theorem mixG_ok {l : List UInt8} {p : Int} {w : Int} {k : Nat} {rows : List (List Int)} (hp : 1 ≤ p) (h : RowsOK p w rows) : ∀ {n : Nat}, n ≤ rows.length → RowsOK p w (mixG l p w.toNat rows k n).1
  | 0, _ => fun r h => by cases h
  | n + 1, hn => fun r hr => by
    have ih := mixG_ok (l := l) (k := k) hp h (n := n) (by omega)
    rw [mixG] at hr
    split at hr
    · rcases List.mem_append.1 hr with hr | hr
      · exact ih r hr
      · simp only [List.mem_singleton] at hr
        subst hr
        exact h _ (mem_getD _ _ _ (by omega))
    · rcases List.mem_append.1 hr with hr | hr
      · exact ih r hr
      · simp only [List.mem_singleton] at hr
        subst hr
        exact ⟨elmG_len, elmG_all hp⟩
def endG (l : List UInt8) (p : Int) (w : Nat) (s : List (List Int) × Nat) : List (List Int) × Nat :=
  if pickV l s.2 4 = 0 then (s.1 ++ [(elmG l p (pickK l s.2) w).1], (elmG l p (pickK l s.2) w).2)
  else if pickV l s.2 4 = 1 then (s.1.take (max 1 (s.1.length - 1)), pickK l s.2) else (s.1, pickK l s.2)
theorem endG_ok {l : List UInt8} {p : Int} {w : Int} {s : List (List Int) × Nat} (hp : 1 ≤ p) (h : RowsOK p w s.1) (h1 : 1 ≤ s.1.length) : RowsOK p w (endG l p w.toNat s).1 ∧ (endG l p w.toNat s).1.length ≤ s.1.length + 1 ∧ 1 ≤ (endG l p w.toNat s).1.length := by
  unfold endG
  split
  · refine ⟨fun r hr => ?_, by simp⟩
    rcases List.mem_append.1 hr with hr | hr
    · exact h r hr
    · simp only [List.mem_singleton] at hr
      subst hr
      exact ⟨elmG_len, elmG_all hp⟩
  · split
    · exact ⟨fun r hr => h r (List.mem_of_mem_take hr), by simp only [List.length_take]; omega, by simp only [List.length_take]; omega⟩
    · exact ⟨h, by simp only; omega, h1⟩
/-- The later table that a change leads to. -/
def laterG (l : List UInt8) (t : PTab) (k : Nat) : PTab × Nat :=
  let s := endG l t.p t.width.toNat (mixG l t.p t.width.toNat t.rows (pickK l k) t.rows.length)
  (⟨t.num + 1 + pickV l k 2, t.p, t.width, s.1⟩, s.2)
theorem laterG_ok (l : List UInt8) (k : Nat) {t : PTab} {n : Nat} (h : TabOK t n) : TabOK (laterG l t k).1 (n + 1) := by
  have a1 := pickV_in l k 2 (by omega)
  have hp := h.p2
  have hm := mixG_ok (l := l) (k := pickK l k) (by omega) h.rows (Nat.le_refl _)
  have hl := mixG_len (l := l) (p := t.p) (w := t.width.toNat) (k := pickK l k) (rows := t.rows) (n := t.rows.length)
  have h1 := h.len1
  obtain ⟨h2, h3, h4⟩ := endG_ok (l := l) (by omega) hm (by rw [hl]; exact h1)
  have := h.num; have := h.num2; have := h.len
  exact ⟨h.fld, h.p2, h.p3, by simp only [laterG]; omega, by simp only [laterG]; omega, h.w1, h.w2, h2, by simp only [laterG]; omega, h4⟩
theorem laterG_num (l : List UInt8) (k : Nat) (t : PTab) : t.num < (laterG l t k).1.num ∧ (laterG l t k).1.p = t.p ∧ (laterG l t k).1.width = t.width := by
  have a2 := pickV_in l k 2 (by omega)
  exact ⟨by simp only [laterG]; omega, rfl, rfl⟩
noncomputable def chgG (l : List UInt8) (t : PTab) (k : Nat) : PChg × Nat := ((betweenF t (laterG l t k).1).1, (laterG l t k).2)
theorem dchange (l : List UInt8) (hl : l.length ≤ 140737488355328) (k : Nat) (t : PTab) {n : Nat} (h : TabOK t n) (hn : n ≤ 50) : Does Try.prog 27 [dcp, vTab t] (dc l k) (vChg (chgG l t k).1) (dc l (chgG l t k).2) [] := by
  refine go_play_Dice_Change rfl BxOK.one fun cx hm0 => go_in 5000 ?_
  unfold ac_play_Dice_Change rs_play_Dice_Change
  have hp := h.p2; have hp3 := h.p3; have hw1 := h.w1; have hw2 := h.w2; have hlen := h.len; have hnum := h.num; have hnum2 := h.num2; have hlen1 := h.len1
  have hok := laterG_ok l k h
  have hB := r15between t (laterG l t k).1 (by omega) h.short (by have := hok.len; omega) hok.short
  simp only [chgG]
  have a1 := pickV_in l k 2 (by omega)
  have d1 := pick l hl k 2 (by omega)
  have hX : (laterG l t k) = (⟨t.num + 1 + pickV l k 2, t.p, t.width, (endG l t.p t.width.toNat (mixG l t.p t.width.toNat t.rows (pickK l k) t.rows.length)).1⟩, (endG l t.p t.width.toNat (mixG l t.p t.width.toNat t.rows (pickK l k) t.rows.length)).2) := rfl
  rw [hX] at hB ⊢
  simp only at hB ⊢
  generalize (betweenF t ⟨t.num + 1 + pickV l k 2, t.p, t.width, (endG l t.p t.width.toNat (mixG l t.p t.width.toNat t.rows (pickK l k) t.rows.length)).1⟩) = c at hB ⊢
  obtain ⟨w, hw⟩ : ∃ w : Nat, t.width = (w : Int) := ⟨t.width.toNat, by omega⟩
  obtain ⟨num, p, width, rows⟩ := t
  simp only at hw
  subst hw
  simp only [Int.toNat_natCast] at *
  clear hok hX h
  have w1 : IntKind.i64.wrap (num + 1) = num + 1 := IntWalk.i64_in _ (by omega)
  have w2 : IntKind.i64.wrap (num + 1 + pickV l k 2) = num + 1 + pickV l k 2 := IntWalk.i64_in _ (by omega)
  generalize pickV l k 2 = x at *
  generalize pickK l k = k1 at *
  repeat' (first | simp (maxSteps := 9999999) only [↓GE, PL, PP, EE, QQ, seval, w1, w2] | (simp (disch := omega) only [IntWalk.i64_in]) | (refine go_brD (fun h => ?_) (fun h => ?_)) | (refine go_gsD (by ((try simp only [EE, QQ, seval]) <;> rfl)) (fun h => ?_) (fun h => ?_)) | (refine go_br (fun h => ?_) (fun h => ?_)) | (refine go_gs (by ((try simp only [EE, QQ, seval]) <;> rfl)) (fun h => ?_) (fun h => ?_)) | (apply go_call 5000 (d1) rfl rfl; (· ((try simp only [CC, LL, NM, EE, QQ, seval]) <;> (first | rfl | ((repeat constructor); done)))); (· exact CallForm.lent (by (try simp only [CC, LL, NM, EE, QQ, seval]); repeat' (first | trivial | (with_reducible rfl) | omega | (with_reducible apply And.intro) | rfl)) rfl rfl); (· ((try simp only [CC, LL, NM, EE, QQ, seval]) <;> (first | rfl | ((repeat constructor); done)))); (· ((try simp only [CC, LL, NM, EE, QQ, seval]) <;> (first | rfl | ((repeat constructor); done))))) | (with_reducible apply And.intro) | (with_reducible exact trivial) | omega | (simp only [List.length_map, List.length_cons, List.length_nil] at *; omega) | (show _ = true; first | rfl | kernel_rfl))
  refine go_loop 5000 hm0 (ι := {q : Nat × Nat // q.1 ≤ rows.length}) (fun i => [(0, .bp 900000 0 0), (3, .bp 3 0 0), (4, .bp 4 0 0), (5, .bp 5 0 0), (6, I i.1.1)]) (fun i => [(3, .box 0 [I num, I p, I w, .d (dRows rows)]), (4, .box 0 [I 0, I 0, I 0, .nl 2]), (5, .box 0 [I (num + 1 + x), I p, I w, .og 24 i.1.2]), (24, .arr i.1.2 1 true ((mixG l p w rows k1 i.1.1).1.map eR)), (900000, .box 0 [.d (dBytes l), I (mixG l p w rows k1 i.1.1).2])]) (fun i => rows.length - i.1.1) [24] ⟨(0, 0), by simp⟩ ?_ ?_
  · (simp only [GeS]; refine ⟨?_, ?_, ?_, ?_⟩; all_goals (repeat' (first | trivial | (with_reducible rfl) | simp only [CC, LL, EE, QQ, seval] | (with_reducible apply And.intro) | rfl | (refine ⟨_, rfl, ?_⟩) | (simp [mixG]; done) | omega)))
  · rintro ⟨⟨j, v⟩, hj⟩
    simp only at hj
    have hml := mixG_len (l := l) (p := p) (k := k1) (w := w) (rows := rows) (n := j)
    by_cases hjn : j < rows.length
    · have e0 := pick l hl (mixG l p w rows k1 j).2 3 (by omega)
      have hs := getD_map eR [] [] rows j hjn
      by_cases hpos : pickV l (mixG l p w rows k1 j).2 3 > 0
      · have q : decide (pickV l (mixG l p w rows k1 j).2 3 > 0) = true := decide_eq_true hpos
        have hN : mixG l p w rows k1 (j + 1) = ((mixG l p w rows k1 j).1 ++ [rows.getD j []], pickK l (mixG l p w rows k1 j).2) := by rw [mixG]; rw [if_pos hpos]
        repeat' (first | simp (maxSteps := 9999999) only [↓GE, PL, PP, EE, QQ, seval, q, hs, eR, List.length_map] | (simp (disch := omega) only [IntWalk.i64_in]) | (refine go_brD (fun h => ?_) (fun h => ?_)) | (refine go_gsD (by ((try simp only [EE, QQ, seval]) <;> rfl)) (fun h => ?_) (fun h => ?_)) | (refine go_br (fun h => ?_) (fun h => ?_)) | (refine go_gs (by ((try simp only [EE, QQ, seval]) <;> rfl)) (fun h => ?_) (fun h => ?_)) | (apply go_call 5000 (e0) rfl rfl; (· ((try simp only [CC, LL, NM, EE, QQ, seval]) <;> (first | rfl | ((repeat constructor); done)))); (· exact CallForm.lent (by (try simp only [CC, LL, NM, EE, QQ, seval]); repeat' (first | trivial | (with_reducible rfl) | omega | (with_reducible apply And.intro) | rfl)) rfl rfl); (· ((try simp only [CC, LL, NM, EE, QQ, seval]) <;> (first | rfl | ((repeat constructor); done)))); (· ((try simp only [CC, LL, NM, EE, QQ, seval]) <;> (first | rfl | ((repeat constructor); done))))) | (with_reducible apply And.intro) | (with_reducible exact trivial) | omega | (simp only [List.length_map, List.length_cons, List.length_nil] at *; omega) | (show _ = true; first | rfl | kernel_rfl))
        refine ⟨⟨(j + 1, v + 1), hjn⟩, ?_, by simp only; omega⟩
        (simp only [GeS]; refine ⟨?_, ?_, ?_, ?_⟩; all_goals (repeat' (first | trivial | (with_reducible rfl) | simp only [CC, LL, EE, QQ, seval] | (with_reducible apply And.intro) | rfl | (refine ⟨_, rfl, ?_⟩) | (simp [hN, eR]; done) | omega)))
      · have q : decide (pickV l (mixG l p w rows k1 j).2 3 > 0) = false := decide_eq_false hpos
        have hN : mixG l p w rows k1 (j + 1) = ((mixG l p w rows k1 j).1 ++ [(elmG l p (pickK l (mixG l p w rows k1 j).2) w).1], (elmG l p (pickK l (mixG l p w rows k1 j).2) w).2) := by rw [mixG]; rw [if_neg hpos]
        have e1 := delements l hl (pickK l (mixG l p w rows k1 j).2) p (by omega) w (by omega)
        repeat' (first | simp (maxSteps := 9999999) only [↓GE, PL, PP, EE, QQ, seval, q, hs, eR, List.length_map] | (simp (disch := omega) only [IntWalk.i64_in]) | (refine go_brD (fun h => ?_) (fun h => ?_)) | (refine go_gsD (by ((try simp only [EE, QQ, seval]) <;> rfl)) (fun h => ?_) (fun h => ?_)) | (refine go_br (fun h => ?_) (fun h => ?_)) | (refine go_gs (by ((try simp only [EE, QQ, seval]) <;> rfl)) (fun h => ?_) (fun h => ?_)) | (apply go_call 5000 (e0) rfl rfl; (· ((try simp only [CC, LL, NM, EE, QQ, seval]) <;> (first | rfl | ((repeat constructor); done)))); (· exact CallForm.lent (by (try simp only [CC, LL, NM, EE, QQ, seval]); repeat' (first | trivial | (with_reducible rfl) | omega | (with_reducible apply And.intro) | rfl)) rfl rfl); (· ((try simp only [CC, LL, NM, EE, QQ, seval]) <;> (first | rfl | ((repeat constructor); done)))); (· ((try simp only [CC, LL, NM, EE, QQ, seval]) <;> (first | rfl | ((repeat constructor); done))))) | (apply go_call 5000 (e1) rfl rfl; (· ((try simp only [CC, LL, NM, EE, QQ, seval]) <;> (first | rfl | ((repeat constructor); done)))); (· exact CallForm.lent (by (try simp only [CC, LL, NM, EE, QQ, seval]); repeat' (first | trivial | (with_reducible rfl) | omega | (with_reducible apply And.intro) | rfl)) rfl rfl); (· ((try simp only [CC, LL, NM, EE, QQ, seval]) <;> (first | rfl | ((repeat constructor); done)))); (· ((try simp only [CC, LL, NM, EE, QQ, seval]) <;> (first | rfl | ((repeat constructor); done))))) | (with_reducible apply And.intro) | (with_reducible exact trivial) | omega | (simp only [List.length_map, List.length_cons, List.length_nil] at *; omega) | (show _ = true; first | rfl | kernel_rfl))
        refine ⟨⟨(j + 1, v + 1), hjn⟩, ?_, by simp only; omega⟩
        (simp only [GeS]; refine ⟨?_, ?_, ?_, ?_⟩; all_goals (repeat' (first | trivial | (with_reducible rfl) | simp only [CC, LL, EE, QQ, seval] | (with_reducible apply And.intro) | rfl | (refine ⟨_, rfl, ?_⟩) | (simp [hN, eR]; done) | omega)))
    · have : j = rows.length := by omega
      subst this
      have e0 := pick l hl (mixG l p w rows k1 rows.length).2 4 (by omega)
      have b0 := pickV_in l (mixG l p w rows k1 rows.length).2 4 (by omega)
      by_cases h0 : pickV l (mixG l p w rows k1 rows.length).2 4 = 0
      · have hN : endG l p w (mixG l p w rows k1 rows.length) = ((mixG l p w rows k1 rows.length).1 ++ [(elmG l p (pickK l (mixG l p w rows k1 rows.length).2) w).1], (elmG l p (pickK l (mixG l p w rows k1 rows.length).2) w).2) := by rw [endG, if_pos h0]
        have e1 := delements l hl (pickK l (mixG l p w rows k1 rows.length).2) p (by omega) w (by omega)
        rw [hN] at hB ⊢
        generalize mixG l p w rows k1 rows.length = s at *
        rw [h0] at e0
        simp only [vTab, dRows, List.map_append, List.map_cons, List.map_nil, eR] at hB
        repeat' (first | simp (maxSteps := 9999999) only [↓GE, PL, PP, EE, QQ, seval, eR, List.length_map] | (simp (disch := omega) only [IntWalk.i64_in]) | (refine go_brD (fun h => ?_) (fun h => ?_)) | (refine go_gsD (by ((try simp only [EE, QQ, seval]) <;> rfl)) (fun h => ?_) (fun h => ?_)) | (refine go_br (fun h => ?_) (fun h => ?_)) | (refine go_gs (by ((try simp only [EE, QQ, seval]) <;> rfl)) (fun h => ?_) (fun h => ?_)) | (apply go_call 5000 (e0) rfl rfl; (· ((try simp only [CC, LL, NM, EE, QQ, seval]) <;> (first | rfl | ((repeat constructor); done)))); (· exact CallForm.lent (by (try simp only [CC, LL, NM, EE, QQ, seval]); repeat' (first | trivial | (with_reducible rfl) | omega | (with_reducible apply And.intro) | rfl)) rfl rfl); (· ((try simp only [CC, LL, NM, EE, QQ, seval]) <;> (first | rfl | ((repeat constructor); done)))); (· ((try simp only [CC, LL, NM, EE, QQ, seval]) <;> (first | rfl | ((repeat constructor); done))))) | (apply go_call 5000 (e1) rfl rfl; (· ((try simp only [CC, LL, NM, EE, QQ, seval]) <;> (first | rfl | ((repeat constructor); done)))); (· exact CallForm.lent (by (try simp only [CC, LL, NM, EE, QQ, seval]); repeat' (first | trivial | (with_reducible rfl) | omega | (with_reducible apply And.intro) | rfl)) rfl rfl); (· ((try simp only [CC, LL, NM, EE, QQ, seval]) <;> (first | rfl | ((repeat constructor); done)))); (· ((try simp only [CC, LL, NM, EE, QQ, seval]) <;> (first | rfl | ((repeat constructor); done))))) | (apply go_call 5000 (hB) rfl rfl; (· ((try simp only [CC, LL, NM, EE, QQ, seval]) <;> (first | rfl | ((repeat constructor); done)))); (· exact CallForm.news rfl rfl); (· ((try simp only [CC, LL, NM, EE, QQ, seval]) <;> (first | rfl | ((repeat constructor); done)))); (· ((try simp only [CC, LL, NM, EE, QQ, seval]) <;> (first | rfl | ((repeat constructor); done))))) | (with_reducible apply And.intro) | (with_reducible exact trivial) | omega | (simp only [List.length_map, List.length_cons, List.length_nil] at *; omega) | (show _ = true; first | rfl | kernel_rfl))
        all_goals ((first | apply ret_mk [] | apply end_mk []); (· ((try simp only [CC, LL, EE, QQ, seval]) <;> rfl)); (· ((try simp only [CC, LL, EE, QQ, seval]) <;> repeat' (first | (with_reducible apply And.intro) | rfl | trivial | (exact ⟨_, rfl⟩) | (exact ⟨_, _, _, rfl⟩) | (simp [*, ]; done) | (simp [*, ]; omega) | (simp_all []; done) | (simp_all []; omega)))); all_goals (first | trivial | decide | ((try simp only [CC, LL, EE, QQ, seval]) <;> repeat' (first | (with_reducible apply And.intro) | (exact ⟨_, rfl, rfl, rfl⟩) | (exact ⟨_, _, _, rfl⟩) | (exact ⟨_, rfl⟩) | trivial | rfl | (simp; done)))))
      · have q0 : (pickV l (mixG l p w rows k1 rows.length).2 4 == 0) = false := by rw [beq_eq_false_iff_ne]; exact h0
        by_cases h1 : pickV l (mixG l p w rows k1 rows.length).2 4 = 1
        · have hN : endG l p w (mixG l p w rows k1 rows.length) = ((mixG l p w rows k1 rows.length).1.take (max 1 ((mixG l p w rows k1 rows.length).1.length - 1)), pickK l (mixG l p w rows k1 rows.length).2) := by rw [endG, if_neg h0, if_pos h1]
          rw [hN] at hB ⊢
          generalize mixG l p w rows k1 rows.length = s at *
          rw [h1] at e0
          simp only [vTab, dRows, List.map_take, hml] at hB
          rw [hml]
          have q3 : max (1 : Int) ((rows.length : Int) - 1) = ((max 1 (rows.length - 1) : Nat) : Int) := by omega
          have w5 : IntKind.i64.wrap ((rows.length : Int) - 1) = (rows.length : Int) - 1 := IntWalk.i64_in _ (by omega)
          repeat' (first | simp (maxSteps := 9999999) only [↓GE, PL, PP, EE, QQ, seval, w5, q3, hml, List.length_map] | (simp (disch := omega) only [IntWalk.i64_in]) | (refine go_brD (fun h => ?_) (fun h => ?_)) | (refine go_gsD (by ((try simp only [EE, QQ, seval]) <;> rfl)) (fun h => ?_) (fun h => ?_)) | (refine go_br (fun h => ?_) (fun h => ?_)) | (refine go_gs (by ((try simp only [EE, QQ, seval]) <;> rfl)) (fun h => ?_) (fun h => ?_)) | (apply go_call 5000 (e0) rfl rfl; (· ((try simp only [CC, LL, NM, EE, QQ, seval]) <;> (first | rfl | ((repeat constructor); done)))); (· exact CallForm.lent (by (try simp only [CC, LL, NM, EE, QQ, seval]); repeat' (first | trivial | (with_reducible rfl) | omega | (with_reducible apply And.intro) | rfl)) rfl rfl); (· ((try simp only [CC, LL, NM, EE, QQ, seval]) <;> (first | rfl | ((repeat constructor); done)))); (· ((try simp only [CC, LL, NM, EE, QQ, seval]) <;> (first | rfl | ((repeat constructor); done))))) | (apply go_call 5000 (hB) rfl rfl; (· ((try simp only [CC, LL, NM, EE, QQ, seval]) <;> (first | rfl | ((repeat constructor); done)))); (· exact CallForm.news rfl rfl); (· ((try simp only [CC, LL, NM, EE, QQ, seval]) <;> (first | rfl | ((repeat constructor); done)))); (· ((try simp only [CC, LL, NM, EE, QQ, seval]) <;> (first | rfl | ((repeat constructor); done))))) | (with_reducible apply And.intro) | (with_reducible exact trivial) | omega | (simp only [List.length_map, List.length_cons, List.length_nil] at *; omega) | (show _ = true; first | rfl | kernel_rfl))
          all_goals ((first | apply ret_mk [] | apply end_mk []); (· ((try simp only [CC, LL, EE, QQ, seval]) <;> rfl)); (· ((try simp only [CC, LL, EE, QQ, seval]) <;> repeat' (first | (with_reducible apply And.intro) | rfl | trivial | (exact ⟨_, rfl⟩) | (exact ⟨_, _, _, rfl⟩) | (simp [*, ]; done) | (simp [*, ]; omega) | (simp_all []; done) | (simp_all []; omega)))); all_goals (first | trivial | decide | ((try simp only [CC, LL, EE, QQ, seval]) <;> repeat' (first | (with_reducible apply And.intro) | (exact ⟨_, rfl, rfl, rfl⟩) | (exact ⟨_, _, _, rfl⟩) | (exact ⟨_, rfl⟩) | trivial | rfl | (simp; done)))))
        · have q1 : (pickV l (mixG l p w rows k1 rows.length).2 4 == 1) = false := by rw [beq_eq_false_iff_ne]; exact h1
          have hN : endG l p w (mixG l p w rows k1 rows.length) = ((mixG l p w rows k1 rows.length).1, pickK l (mixG l p w rows k1 rows.length).2) := by rw [endG, if_neg h0, if_neg h1]
          rw [hN] at hB ⊢
          generalize mixG l p w rows k1 rows.length = s at *
          repeat' (first | simp (maxSteps := 9999999) only [↓GE, PL, PP, EE, QQ, seval, q0, q1] | (simp (disch := omega) only [IntWalk.i64_in]) | (refine go_brD (fun h => ?_) (fun h => ?_)) | (refine go_gsD (by ((try simp only [EE, QQ, seval]) <;> rfl)) (fun h => ?_) (fun h => ?_)) | (refine go_br (fun h => ?_) (fun h => ?_)) | (refine go_gs (by ((try simp only [EE, QQ, seval]) <;> rfl)) (fun h => ?_) (fun h => ?_)) | (apply go_call 5000 (e0) rfl rfl; (· ((try simp only [CC, LL, NM, EE, QQ, seval]) <;> (first | rfl | ((repeat constructor); done)))); (· exact CallForm.lent (by (try simp only [CC, LL, NM, EE, QQ, seval]); repeat' (first | trivial | (with_reducible rfl) | omega | (with_reducible apply And.intro) | rfl)) rfl rfl); (· ((try simp only [CC, LL, NM, EE, QQ, seval]) <;> (first | rfl | ((repeat constructor); done)))); (· ((try simp only [CC, LL, NM, EE, QQ, seval]) <;> (first | rfl | ((repeat constructor); done))))) | (apply go_call 5000 (hB) rfl rfl; (· ((try simp only [CC, LL, NM, EE, QQ, seval]) <;> (first | rfl | ((repeat constructor); done)))); (· exact CallForm.news rfl rfl); (· ((try simp only [CC, LL, NM, EE, QQ, seval]) <;> (first | rfl | ((repeat constructor); done)))); (· ((try simp only [CC, LL, NM, EE, QQ, seval]) <;> (first | rfl | ((repeat constructor); done))))) | (with_reducible apply And.intro) | (with_reducible exact trivial) | omega | (simp only [List.length_map, List.length_cons, List.length_nil] at *; omega) | (show _ = true; first | rfl | kernel_rfl))
          all_goals ((first | apply ret_mk [] | apply end_mk []); (· ((try simp only [CC, LL, EE, QQ, seval]) <;> rfl)); (· ((try simp only [CC, LL, EE, QQ, seval]) <;> repeat' (first | (with_reducible apply And.intro) | rfl | trivial | (exact ⟨_, rfl⟩) | (exact ⟨_, _, _, rfl⟩) | (simp [*, ]; done) | (simp [*, ]; omega) | (simp_all []; done) | (simp_all []; omega)))); all_goals (first | trivial | decide | ((try simp only [CC, LL, EE, QQ, seval]) <;> repeat' (first | (with_reducible apply And.intro) | (exact ⟨_, rfl, rfl, rfl⟩) | (exact ⟨_, _, _, rfl⟩) | (exact ⟨_, rfl⟩) | trivial | rfl | (simp; done)))))
end Go.Proofs.Ytilkjcobkdjlkaa.Sim
