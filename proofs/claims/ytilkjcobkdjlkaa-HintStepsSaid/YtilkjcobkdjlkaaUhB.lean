/- Dice: fields, rows, tables. -/
import Derived.Test.YtilkjcobkdjlkaaPlayA
import Derived.Test.YtilkjcobkdjlkaaPkC
namespace Go.Proofs.Ytilkjcobkdjlkaa.Sim
open Go
set_option maxRecDepth 100000
set_option maxHeartbeats 4000000
set_option linter.unusedVariables false
set_option linter.unusedSimpArgs false
attribute [local irreducible] Go Mean
/-- Rows of elements. -/
def RowsOK (p w : Int) (rows : List (List Int)) : Prop := ∀ r ∈ rows, r.length = w.toNat ∧ r.all (inE p) = true
theorem rowsErr_ok {p w : Int} (hw : 0 ≤ w) : ∀ {rows : List (List Int)}, rowsErr p w rows = 0 ↔ RowsOK p w rows
  | [] => by simp [rowsErr, RowsOK]
  | r :: l => by
    have ih := rowsErr_ok (p := p) hw (rows := l)
    simp only [RowsOK, List.mem_cons, forall_eq_or_imp] at ih ⊢
    rw [rowsErr]
    split
    · rename_i h; simp; omega
    · rename_i h
      split
      · rename_i h2
        rw [ih]
        exact ⟨fun g => ⟨⟨by omega, h2⟩, g⟩, fun g => g.2⟩
      · rename_i h2
        exact ⟨fun g => by simp at g, fun g => absurd g.1.2 h2⟩
theorem allIn {p : Int} {l : List Int} : l.all (inE p) = true ↔ ∀ x ∈ l, 0 ≤ x ∧ x < p := by simp [inE, List.all_eq_true]
theorem elmG_all {l : List UInt8} {p : Int} {k n : Nat} (hp : 1 ≤ p) : (elmG l p k n).1.all (inE p) = true := allIn.2 (elmG_in hp)
def fldList : List Int := [7, 11, 13, 257]
def fldV (l : List UInt8) (k : Nat) : Int := fldList.getD (pickV l k 4).toNat 0
theorem fieldB_four : ∀ n : Nat, n < 4 → fieldB (fldList.getD n 0) = true := by
  intro n hn
  have key : ∀ n : Nat, n < 4 → 2 ≤ fldList.getD n 0 ∧ fldList.getD n 0 ≤ 65521 ∧ fldList.getD n 0 ≤ 257 ∧ ∀ d : Nat, d < 17 → 2 ≤ d → ((d * d : Nat) : Int) ≤ fldList.getD n 0 → (fldList.getD n 0).tmod (d : Nat) ≠ 0 := by decide +kernel
  obtain ⟨h1, h2, h0, h3⟩ := key n hn
  rw [fieldB_iff]
  refine ⟨h1, h2, fun d hd hdd => ?_⟩
  obtain ⟨e, rfl⟩ := Int.eq_ofNat_of_zero_le (show 0 ≤ d by omega)
  refine h3 e ?_ (by omega) (by rw [Int.natCast_mul]; exact hdd)
  apply Nat.lt_of_not_le
  intro h
  have h4 : (17 : Int) * 17 ≤ (e : Int) * e := Int.mul_le_mul (by omega) (by omega) (by omega) (by omega)
  omega
theorem fldV_ok (l : List UInt8) (k : Nat) : fieldB (fldV l k) = true ∧ 7 ≤ fldV l k ∧ fldV l k ≤ 257 := by
  have := pickV_in l k 4 (by omega)
  have h := fieldB_four (pickV l k 4).toNat (by omega)
  have key : ∀ n : Nat, n < 4 → 7 ≤ fldList.getD n 0 ∧ fldList.getD n 0 ≤ 257 := by decide
  exact ⟨h, key _ (by omega)⟩
theorem dfield (l : List UInt8) (hl : l.length ≤ 140737488355328) (k : Nat) : Does Try.prog 15 [dcp] (dc l k) (.ag [I (fldV l k)]) (dc l (pickK l k)) [] := by
  refine go_play_Dice_Field rfl BxOK.one fun cx hm0 => go_in 5000 ?_
  unfold ac_play_Dice_Field rs_play_Dice_Field
  have hn := pick l hl k 4 (by omega)
  have hx := pickV_in l k 4 (by omega)
  unfold fldV
  generalize pickV l k 4 = x at hn hx
  have hx : x = 0 ∨ x = 1 ∨ x = 2 ∨ x = 3 := by omega
  rcases hx with rfl | rfl | rfl | rfl
  all_goals
    repeat' (first | simp (maxSteps := 9999999) only [↓GE, PL, PP, EE, QQ, seval, fldList, List.set_cons_zero, List.set_cons_succ, List.replicate] | (simp (disch := omega) only [IntWalk.i64_in]) | (refine go_brD (fun h => ?_) (fun h => ?_)) | (refine go_gsD (by ((try simp only [EE, QQ, seval]) <;> rfl)) (fun h => ?_) (fun h => ?_)) | (refine go_br (fun h => ?_) (fun h => ?_)) | (refine go_gs (by ((try simp only [EE, QQ, seval]) <;> rfl)) (fun h => ?_) (fun h => ?_)) | (apply go_call 5000 (hn) rfl rfl; (· ((try simp only [CC, LL, NM, EE, QQ, seval]) <;> (first | rfl | ((repeat constructor); done)))); (· exact CallForm.lent (by (try simp only [CC, LL, NM, EE, QQ, seval]); repeat' (first | trivial | (with_reducible rfl) | omega | (with_reducible apply And.intro) | rfl)) rfl rfl); (· ((try simp only [CC, LL, NM, EE, QQ, seval]) <;> (first | rfl | ((repeat constructor); done)))); (· ((try simp only [CC, LL, NM, EE, QQ, seval]) <;> (first | rfl | ((repeat constructor); done))))) | (with_reducible apply And.intro) | (with_reducible exact trivial) | omega | (simp only [List.length_map, List.length_cons, List.length_nil] at *; omega) | (show _ = true; first | rfl | kernel_rfl))
    all_goals ((first | apply ret_mk [] | apply end_mk []); (· ((try simp only [CC, LL, EE, QQ, seval]) <;> rfl)); (· ((try simp only [CC, LL, EE, QQ, seval]) <;> repeat' (first | (with_reducible apply And.intro) | rfl | trivial | (exact ⟨_, rfl⟩) | (exact ⟨_, _, _, rfl⟩) | (simp [*, fldList]; done) | (simp [*, fldList]; omega) | (simp_all [fldList]; done) | (simp_all [fldList]; omega)))); all_goals (first | trivial | decide | ((try simp only [CC, LL, EE, QQ, seval]) <;> repeat' (first | (with_reducible apply And.intro) | (exact ⟨_, rfl, rfl, rfl⟩) | (exact ⟨_, _, _, rfl⟩) | (exact ⟨_, rfl⟩) | trivial | rfl | (simp; done)))))
def rowG (l : List UInt8) (p : Int) (w : Nat) (k : Nat) : Nat → List (List Int) × Nat
  | 0 => ([], k)
  | n + 1 => ((rowG l p w k n).1 ++ [(elmG l p (rowG l p w k n).2 w).1], (elmG l p (rowG l p w k n).2 w).2)
theorem rowG_len {l : List UInt8} {p : Int} {w k : Nat} : ∀ {n : Nat}, (rowG l p w k n).1.length = n
  | 0 => rfl
  | n + 1 => by rw [rowG]; simp [rowG_len]
theorem rowG_ok {l : List UInt8} {p : Int} {w k : Nat} (hp : 1 ≤ p) : ∀ {n : Nat}, RowsOK p w (rowG l p w k n).1
  | 0 => fun r h => by cases h
  | n + 1 => fun r h => by
    rw [rowG] at h
    rcases List.mem_append.1 h with h | h
    · exact rowG_ok hp r h
    · simp only [List.mem_singleton] at h
      subst h
      exact ⟨by rw [elmG_len]; omega, elmG_all hp⟩
theorem drows (l : List UInt8) (hl : l.length ≤ 140737488355328) (k : Nat) (p : Int) (hp : 1 ≤ p) (n w : Nat) (hn : n ≤ 1000000) (hw : w ≤ 1000000) : Does Try.prog 60 [dcp, .ag [I p], I n, I w] (dc l k) (.d (dRows (rowG l p w k n).1)) (dc l (rowG l p w k n).2) [] := by
  refine go_play_Dice_Rows rfl BxOK.one fun cx hm0 => go_in 5000 ?_
  unfold ac_play_Dice_Rows rs_play_Dice_Rows
  repeat' (first | simp (maxSteps := 9999999) only [↓GE, PL, PP, EE, QQ, seval] | (simp (disch := omega) only [IntWalk.i64_in]) | (refine go_brD (fun h => ?_) (fun h => ?_)) | (refine go_gsD (by ((try simp only [EE, QQ, seval]) <;> rfl)) (fun h => ?_) (fun h => ?_)) | (refine go_br (fun h => ?_) (fun h => ?_)) | (refine go_gs (by ((try simp only [EE, QQ, seval]) <;> rfl)) (fun h => ?_) (fun h => ?_)) | (with_reducible apply And.intro) | (with_reducible exact trivial) | omega | (simp only [List.length_map, List.length_cons, List.length_nil] at *; omega) | (show _ = true; first | rfl | kernel_rfl))
  refine go_loop 5000 hm0 (ι := {q : Nat × Nat // q.1 ≤ n}) (fun i => [(0, .bp 900000 0 0), (2, I n), (3, I w), (5, .bp 5 0 0), (9, .og 24 i.1.2), (10, I i.1.1)]) (fun i => [(5, .box 0 [I p]), (24, .arr i.1.2 1 true ((rowG l p w k i.1.1).1.map eR)), (900000, .box 0 [.d (dBytes l), I (rowG l p w k i.1.1).2])]) (fun i => n - i.1.1) [24] ⟨(0, 0), by simp⟩ ?_ ?_
  · (simp only [GeS]; refine ⟨?_, ?_, ?_, ?_⟩; all_goals (repeat' (first | trivial | (with_reducible rfl) | simp only [CC, LL, EE, QQ, seval] | (with_reducible apply And.intro) | rfl | (refine ⟨_, rfl, ?_⟩) | (simp [rowG]; done) | omega)))
  · rintro ⟨⟨j, v⟩, hj⟩
    simp only at hj
    have hlen := rowG_len (l := l) (p := p) (k := k) (w := w) (n := j)
    by_cases hjn : j < n
    · have e1 := delements l hl (rowG l p w k j).2 p hp w (by omega)
      repeat' (first | simp (maxSteps := 9999999) only [↓GE, PL, PP, EE, QQ, seval, List.length_map] | (simp (disch := omega) only [IntWalk.i64_in]) | (refine go_brD (fun h => ?_) (fun h => ?_)) | (refine go_gsD (by ((try simp only [EE, QQ, seval]) <;> rfl)) (fun h => ?_) (fun h => ?_)) | (refine go_br (fun h => ?_) (fun h => ?_)) | (refine go_gs (by ((try simp only [EE, QQ, seval]) <;> rfl)) (fun h => ?_) (fun h => ?_)) | (apply go_call 5000 (e1) rfl rfl; (· ((try simp only [CC, LL, NM, EE, QQ, seval]) <;> (first | rfl | ((repeat constructor); done)))); (· exact CallForm.lent (by (try simp only [CC, LL, NM, EE, QQ, seval]); repeat' (first | trivial | (with_reducible rfl) | omega | (with_reducible apply And.intro) | rfl)) rfl rfl); (· ((try simp only [CC, LL, NM, EE, QQ, seval]) <;> (first | rfl | ((repeat constructor); done)))); (· ((try simp only [CC, LL, NM, EE, QQ, seval]) <;> (first | rfl | ((repeat constructor); done))))) | (with_reducible apply And.intro) | (with_reducible exact trivial) | omega | (simp only [List.length_map, List.length_cons, List.length_nil] at *; omega) | (show _ = true; first | rfl | kernel_rfl))
      refine ⟨⟨(j + 1, v + 1), hjn⟩, ?_, by simp only; omega⟩
      (simp only [GeS]; refine ⟨?_, ?_, ?_, ?_⟩; all_goals (repeat' (first | trivial | (with_reducible rfl) | simp only [CC, LL, EE, QQ, seval] | (with_reducible apply And.intro) | rfl | (refine ⟨_, rfl, ?_⟩) | (simp [rowG, eR]; done) | omega)))
    · have : j = n := by omega
      subst this
      repeat' (first | simp (maxSteps := 9999999) only [↓GE, PL, PP, EE, QQ, seval] | (simp (disch := omega) only [IntWalk.i64_in]) | (refine go_brD (fun h => ?_) (fun h => ?_)) | (refine go_gsD (by ((try simp only [EE, QQ, seval]) <;> rfl)) (fun h => ?_) (fun h => ?_)) | (refine go_br (fun h => ?_) (fun h => ?_)) | (refine go_gs (by ((try simp only [EE, QQ, seval]) <;> rfl)) (fun h => ?_) (fun h => ?_)) | (with_reducible apply And.intro) | (with_reducible exact trivial) | omega | (simp only [List.length_map, List.length_cons, List.length_nil] at *; omega) | (show _ = true; first | rfl | kernel_rfl))
      all_goals ((first | apply ret_mk [] | apply end_mk []); (· ((try simp only [CC, LL, EE, QQ, seval]) <;> rfl)); (· ((try simp only [CC, LL, EE, QQ, seval]) <;> repeat' (first | (with_reducible apply And.intro) | rfl | trivial | (exact ⟨_, rfl⟩) | (exact ⟨_, _, _, rfl⟩) | (simp [*, ]; done) | (simp [*, ]; omega) | (simp_all []; done) | (simp_all []; omega)))); all_goals (first | trivial | decide | ((try simp only [CC, LL, EE, QQ, seval]) <;> repeat' (first | (with_reducible apply And.intro) | (exact ⟨_, rfl, rfl, rfl⟩) | (exact ⟨_, _, _, rfl⟩) | (exact ⟨_, rfl⟩) | trivial | rfl | (simp; done)))))
/-- A table that is small. -/
structure TabOK (t : PTab) (n : Nat) : Prop where
  fld : fieldB t.p = true
  p2 : 7 ≤ t.p
  p3 : t.p ≤ 257
  num : 1 ≤ t.num
  num2 : t.num ≤ 3 + 2 * n
  w1 : 1 ≤ t.width
  w2 : t.width ≤ 3
  rows : RowsOK t.p t.width t.rows
  len : t.rows.length ≤ 5 + n
  len1 : 1 ≤ t.rows.length
theorem TabOK.check {t : PTab} {n : Nat} (h : TabOK t n) (hn : n ≤ 100) : checkT t = 0 := by
  have h1 := h.num; have h2 := h.num2; have h3 := h.w1; have h4 := h.w2; have h5 := h.len
  rw [checkT, if_neg (by omega), if_neg (by simp [h.fld]), if_neg (by omega), if_neg (by omega)]
  exact (rowsErr_ok (by omega)).2 h.rows
theorem TabOK.short {t : PTab} {n : Nat} (h : TabOK t n) : Short t.rows := fun r hr => by
  have := (h.rows r hr).1; have := h.w2; omega
theorem TabOK.mono {t : PTab} {n m : Nat} (h : TabOK t n) (hm : n ≤ m) : TabOK t m :=
  ⟨h.fld, h.p2, h.p3, h.num, by have := h.num2; omega, h.w1, h.w2, h.rows, by have := h.len; omega, h.len1⟩
def tabG (l : List UInt8) (p : Int) (k : Nat) : PTab × Nat :=
  let k1 := pickK l k
  let k2 := pickK l k1
  let R := rowG l p (1 + pickV l k 3).toNat (pickK l k2) (1 + pickV l k2 5).toNat
  (⟨1 + pickV l k1 3, p, 1 + pickV l k 3, R.1⟩, R.2)
theorem tabG_ok (l : List UInt8) (p : Int) (k : Nat) (hf : fieldB p = true) (h1 : 7 ≤ p) (h2 : p ≤ 257) : TabOK (tabG l p k).1 0 := by
  have a1 := pickV_in l k 3 (by omega)
  have a2 := pickV_in l (pickK l k) 3 (by omega)
  have a3 := pickV_in l (pickK l (pickK l k)) 5 (by omega)
  refine ⟨hf, h1, h2, by simp only [tabG]; omega, by simp only [tabG]; omega, by simp only [tabG]; omega, by simp only [tabG]; omega, ?_, by simp only [tabG, rowG_len]; omega, by simp only [tabG, rowG_len]; omega⟩
  have := rowG_ok (l := l) (p := p) (w := (1 + pickV l k 3).toNat) (k := pickK l (pickK l (pickK l k))) (by omega) (n := (1 + pickV l (pickK l (pickK l k)) 5).toNat)
  simp only [tabG]
  intro r hr
  have h := this r hr
  exact ⟨by rw [h.1]; omega, h.2⟩
theorem dtable (l : List UInt8) (hl : l.length ≤ 140737488355328) (k : Nat) (p : Int) (hp : 1 ≤ p) : Does Try.prog 14 [dcp, .ag [I p]] (dc l k) (vTab (tabG l p k).1) (dc l (tabG l p k).2) [] := by
  refine go_play_Dice_Table rfl BxOK.one fun cx hm0 => go_in 5000 ?_
  unfold ac_play_Dice_Table rs_play_Dice_Table
  have a1 := pickV_in l k 3 (by omega)
  have a2 := pickV_in l (pickK l k) 3 (by omega)
  have a3 := pickV_in l (pickK l (pickK l k)) 5 (by omega)
  have d1 := pick l hl k 3 (by omega)
  have d2 := pick l hl (pickK l k) 3 (by omega)
  have d3 := pick l hl (pickK l (pickK l k)) 5 (by omega)
  simp only [tabG]
  generalize pickV l (pickK l (pickK l k)) 5 = x3 at *
  generalize pickV l (pickK l k) 3 = x2 at *
  generalize pickV l k 3 = x1 at *
  obtain ⟨n1, rfl⟩ := Int.eq_ofNat_of_zero_le a1.1
  obtain ⟨n3, rfl⟩ := Int.eq_ofNat_of_zero_le a3.1
  have d4 := drows l hl (pickK l (pickK l (pickK l k))) p hp (1 + n3) (1 + n1) (by omega) (by omega)
  rw [show (1 + (n1 : Int)).toNat = 1 + n1 by omega, show (1 + (n3 : Int)).toNat = 1 + n3 by omega]
  rw [show ((1 + n3 : Nat) : Int) = 1 + (n3 : Int) by omega, show ((1 + n1 : Nat) : Int) = 1 + (n1 : Int) by omega] at d4
  repeat' (first | simp (maxSteps := 9999999) only [↓GE, PL, PP, EE, QQ, seval] | (simp (disch := omega) only [IntWalk.i64_in]) | (refine go_brD (fun h => ?_) (fun h => ?_)) | (refine go_gsD (by ((try simp only [EE, QQ, seval]) <;> rfl)) (fun h => ?_) (fun h => ?_)) | (refine go_br (fun h => ?_) (fun h => ?_)) | (refine go_gs (by ((try simp only [EE, QQ, seval]) <;> rfl)) (fun h => ?_) (fun h => ?_)) | (apply go_call 5000 (d1) rfl rfl; (· ((try simp only [CC, LL, NM, EE, QQ, seval]) <;> (first | rfl | ((repeat constructor); done)))); (· exact CallForm.lent (by (try simp only [CC, LL, NM, EE, QQ, seval]); repeat' (first | trivial | (with_reducible rfl) | omega | (with_reducible apply And.intro) | rfl)) rfl rfl); (· ((try simp only [CC, LL, NM, EE, QQ, seval]) <;> (first | rfl | ((repeat constructor); done)))); (· ((try simp only [CC, LL, NM, EE, QQ, seval]) <;> (first | rfl | ((repeat constructor); done))))) | (apply go_call 5000 (d2) rfl rfl; (· ((try simp only [CC, LL, NM, EE, QQ, seval]) <;> (first | rfl | ((repeat constructor); done)))); (· exact CallForm.lent (by (try simp only [CC, LL, NM, EE, QQ, seval]); repeat' (first | trivial | (with_reducible rfl) | omega | (with_reducible apply And.intro) | rfl)) rfl rfl); (· ((try simp only [CC, LL, NM, EE, QQ, seval]) <;> (first | rfl | ((repeat constructor); done)))); (· ((try simp only [CC, LL, NM, EE, QQ, seval]) <;> (first | rfl | ((repeat constructor); done))))) | (apply go_call 5000 (d3) rfl rfl; (· ((try simp only [CC, LL, NM, EE, QQ, seval]) <;> (first | rfl | ((repeat constructor); done)))); (· exact CallForm.lent (by (try simp only [CC, LL, NM, EE, QQ, seval]); repeat' (first | trivial | (with_reducible rfl) | omega | (with_reducible apply And.intro) | rfl)) rfl rfl); (· ((try simp only [CC, LL, NM, EE, QQ, seval]) <;> (first | rfl | ((repeat constructor); done)))); (· ((try simp only [CC, LL, NM, EE, QQ, seval]) <;> (first | rfl | ((repeat constructor); done))))) | (apply go_call 5000 (d4) rfl rfl; (· ((try simp only [CC, LL, NM, EE, QQ, seval]) <;> (first | rfl | ((repeat constructor); done)))); (· exact CallForm.lent (by (try simp only [CC, LL, NM, EE, QQ, seval]); repeat' (first | trivial | (with_reducible rfl) | omega | (with_reducible apply And.intro) | rfl)) rfl rfl); (· ((try simp only [CC, LL, NM, EE, QQ, seval]) <;> (first | rfl | ((repeat constructor); done)))); (· ((try simp only [CC, LL, NM, EE, QQ, seval]) <;> (first | rfl | ((repeat constructor); done))))) | (with_reducible apply And.intro) | (with_reducible exact trivial) | omega | (simp only [List.length_map, List.length_cons, List.length_nil] at *; omega) | (show _ = true; first | rfl | kernel_rfl))
  all_goals ((first | apply ret_mk [] | apply end_mk []); (· ((try simp only [CC, LL, EE, QQ, seval]) <;> rfl)); (· ((try simp only [CC, LL, EE, QQ, seval]) <;> repeat' (first | (with_reducible apply And.intro) | rfl | trivial | (exact ⟨_, rfl⟩) | (exact ⟨_, _, _, rfl⟩) | (simp [*, ]; done) | (simp [*, ]; omega) | (simp_all []; done) | (simp_all []; omega)))); all_goals (first | trivial | decide | ((try simp only [CC, LL, EE, QQ, seval]) <;> repeat' (first | (with_reducible apply And.intro) | (exact ⟨_, rfl, rfl, rfl⟩) | (exact ⟨_, _, _, rfl⟩) | (exact ⟨_, rfl⟩) | trivial | rfl | (simp; done)))))
end Go.Proofs.Ytilkjcobkdjlkaa.Sim
