/- Rows times factors. -/
import Derived.Test.YtilkjcobkdjlkaaUhD
import Derived.Test.YtilkjcobkdjlkaaUhB
namespace Go.Proofs.Ytilkjcobkdjlkaa.Sim
open Go
set_option maxRecDepth 100000
set_option maxHeartbeats 4000000
set_option linter.unusedVariables false
set_option linter.unusedSimpArgs false
attribute [local irreducible] Go Mean
/-- The first n rows, each times its factor. -/
def combN (p : Int) (w : Nat) (c : List Int) (rows : List (List Int)) : Nat → List Int
  | 0 => List.replicate w 0
  | j + 1 => addStep p (c.getD j 0) (combN p w c rows j) (rows.getD j []) w
def combL (p : Int) (w : Nat) (c : List Int) (rows : List (List Int)) : List Int := combN p w c rows rows.length
theorem combN_len {p : Int} {w : Nat} {c : List Int} {rows : List (List Int)} : ∀ {n : Nat}, (combN p w c rows n).length = w
  | 0 => by simp [combN]
  | n + 1 => by rw [combN, addStep_len, combN_len]
theorem combN_in {p : Int} {w : Nat} {c : List Int} {rows : List (List Int)} (hp : 1 ≤ p) : ∀ {n i : Nat}, i < w → 0 ≤ (combN p w c rows n).getD i 0 ∧ (combN p w c rows n).getD i 0 < p
  | 0, i, h => by simp [combN, List.getD_eq_getElem?_getD, h]; omega
  | n + 1, i, h => by
    rw [combN, addStep_get (by rw [combN_len]; exact h), if_pos h]
    exact ⟨Int.emod_nonneg _ (by omega), Int.emod_lt_of_pos _ (by omega)⟩
theorem combN_all {p : Int} {w : Nat} {c : List Int} {rows : List (List Int)} (hp : 1 ≤ p) {n : Nat} : (combN p w c rows n).all (inE p) = true := by
  rw [allIn]
  intro x hx
  obtain ⟨i, hi, rfl⟩ := List.getElem_of_mem hx
  rw [combN_len] at hi
  have := combN_in (p := p) (w := w) (c := c) (rows := rows) hp (n := n) hi
  simpa [List.getD_eq_getElem?_getD, combN_len, hi] using this
theorem all_getD {p : Int} {l : List Int} (h : l.all (inE p) = true) {i : Nat} (hi : i < l.length) : 0 ≤ l.getD i 0 ∧ l.getD i 0 < p := allIn.1 h _ (mem_getD _ _ _ hi)
theorem zeros_map (w : Nat) : (List.replicate w (0 : Int)).map eI = List.replicate w [D.at (.int .i64 0)] := by rw [List.map_replicate]; rfl
theorem comb0 {p : Int} {w : Nat} {c : List Int} {rows : List (List Int)} : (combN p w c rows 0).map eI = List.replicate w [D.at (.int .i64 0)] := zeros_map w
theorem vcombine (p : Int) (w : Nat) (c : List Int) (rows : List (List Int)) (hf : fieldB p = true) (hw : w ≤ 64) (hlen : c.length = rows.length) (hr : RowsOK p w rows) (hb : rows.length ≤ 1024) (hc : c.all (inE p) = true) : Does Try.prog 63 [.ag [I p], .d (dInts c), .d (dRows rows), I w] [] (.tu [.d (dInts (combL p w c rows)), I 0]) [] [] := by
  refine go_vector_Combine rfl BxOK.nil fun cx hm0 => go_in 5000 ?_
  unfold ac_vector_Combine rs_vector_Combine
  obtain ⟨h1, h2, h3⟩ := fieldB_iff.1 hf
  have e1 := resOf p
  rw [hf, if_pos rfl] at e1
  have e2 := allF p c (by omega)
  rw [hc] at e2
  have q0 : decide ((w : Int) > 64) = false := decide_eq_false (by omega)
  have q1 : ((c.length : Int) != (rows.length : Int)) = false := by rw [hlen]; simp
  repeat' (first | simp (maxSteps := 9999999) only [↓GE, PL, PP, EE, QQ, seval, q0, q1, List.length_map] | (simp (disch := omega) only [IntWalk.i64_in]) | (refine go_brD (fun h => ?_) (fun h => ?_)) | (refine go_gsD (by ((try simp only [EE, QQ, seval]) <;> rfl)) (fun h => ?_) (fun h => ?_)) | (refine go_br (fun h => ?_) (fun h => ?_)) | (refine go_gs (by ((try simp only [EE, QQ, seval]) <;> rfl)) (fun h => ?_) (fun h => ?_)) | (apply go_call 5000 (e1) rfl rfl; (· ((try simp only [CC, LL, NM, EE, QQ, seval]) <;> (first | rfl | ((repeat constructor); done)))); (· exact CallForm.plain rfl); (· ((try simp only [CC, LL, NM, EE, QQ, seval]) <;> (first | rfl | ((repeat constructor); done)))); (· ((try simp only [CC, LL, NM, EE, QQ, seval]) <;> (first | rfl | ((repeat constructor); done))))) | (apply go_call 5000 (e2) rfl rfl; (· ((try simp only [CC, LL, NM, EE, QQ, seval]) <;> (first | rfl | ((repeat constructor); done)))); (· exact CallForm.plain rfl); (· ((try simp only [CC, LL, NM, EE, QQ, seval]) <;> (first | rfl | ((repeat constructor); done)))); (· ((try simp only [CC, LL, NM, EE, QQ, seval]) <;> (first | rfl | ((repeat constructor); done))))) | (with_reducible apply And.intro) | (with_reducible exact trivial) | omega | (simp only [List.length_map, List.length_cons, List.length_nil] at *; omega) | (show _ = true; first | rfl | kernel_rfl))
  refine go_loop 5000 hm0 (ι := {k : Nat // k ≤ rows.length}) (fun i => [(1, .d (dInts c)), (2, .d (dRows rows)), (3, I w), (10, I p), (12, B true), (39, .d (dRows rows)), (40, I rows.length), (41, I i.1)]) (fun i => []) (fun i => rows.length - i.1) [] ⟨0, Nat.zero_le _⟩ ?_ ?_
  · (simp only [GeS]; refine ⟨?_, ?_, ?_, ?_⟩; all_goals (repeat' (first | trivial | (with_reducible rfl) | simp only [CC, LL, EE, QQ, seval] | (with_reducible apply And.intro) | rfl | (refine ⟨_, rfl, ?_⟩) | (simp; done) | omega)))
  · rintro ⟨k, hk⟩
    simp only
    by_cases hkr : k < rows.length
    · have hs := getD_map eR [] [] rows k hkr
      have hm := hr _ (mem_getD [] rows k hkr)
      generalize rows.getD k [] = r at hs hm
      have e3 := allF p r (by have := hm.1; omega)
      rw [hm.2] at e3
      have q2 : ((r.length : Int) != (w : Int)) = false := by have := hm.1; simp; omega
      repeat' (first | simp (maxSteps := 9999999) only [↓GE, PL, PP, EE, QQ, seval, hs, q2, eR, List.length_map] | (simp (disch := omega) only [IntWalk.i64_in]) | (refine go_brD (fun h => ?_) (fun h => ?_)) | (refine go_gsD (by ((try simp only [EE, QQ, seval]) <;> rfl)) (fun h => ?_) (fun h => ?_)) | (refine go_br (fun h => ?_) (fun h => ?_)) | (refine go_gs (by ((try simp only [EE, QQ, seval]) <;> rfl)) (fun h => ?_) (fun h => ?_)) | (apply go_call 5000 (e3) rfl rfl; (· ((try simp only [CC, LL, NM, EE, QQ, seval]) <;> (first | rfl | ((repeat constructor); done)))); (· exact CallForm.plain rfl); (· ((try simp only [CC, LL, NM, EE, QQ, seval]) <;> (first | rfl | ((repeat constructor); done)))); (· ((try simp only [CC, LL, NM, EE, QQ, seval]) <;> (first | rfl | ((repeat constructor); done))))) | (with_reducible apply And.intro) | (with_reducible exact trivial) | omega | (simp only [List.length_map, List.length_cons, List.length_nil] at *; omega) | (show _ = true; first | rfl | kernel_rfl))
      refine ⟨⟨k + 1, hkr⟩, ?_, by simp only; omega⟩
      (simp only [GeS]; refine ⟨?_, ?_, ?_, ?_⟩; all_goals (repeat' (first | trivial | (with_reducible rfl) | simp only [CC, LL, EE, QQ, seval] | (with_reducible apply And.intro) | rfl | (refine ⟨_, rfl, ?_⟩) | (simp; done) | omega)))
    · obtain rfl : k = rows.length := by omega
      repeat' (first | simp (maxSteps := 9999999) only [↓GE, PL, PP, EE, QQ, seval] | (simp (disch := omega) only [IntWalk.i64_in]) | (refine go_brD (fun h => ?_) (fun h => ?_)) | (refine go_gsD (by ((try simp only [EE, QQ, seval]) <;> rfl)) (fun h => ?_) (fun h => ?_)) | (refine go_br (fun h => ?_) (fun h => ?_)) | (refine go_gs (by ((try simp only [EE, QQ, seval]) <;> rfl)) (fun h => ?_) (fun h => ?_)) | (with_reducible apply And.intro) | (with_reducible exact trivial) | omega | (simp only [List.length_map, List.length_cons, List.length_nil] at *; omega) | (show _ = true; first | rfl | kernel_rfl))
      refine go_loop 5000 hm0 (ι := {k : Nat // k ≤ rows.length}) (fun i => [(1, .d (dInts c)), (10, I p), (15, .og 59 0), (60, .d (dRows rows)), (61, I rows.length), (62, I i.1)]) (fun i => [(59, .arr 0 1 true ((combN p w c rows i.1).map eI))]) (fun i => rows.length - i.1) [] ⟨0, Nat.zero_le _⟩ ?_ ?_
      · (simp only [GeS]; refine ⟨?_, ?_, ?_, ?_⟩; all_goals (repeat' (first | trivial | (with_reducible rfl) | simp only [CC, LL, EE, QQ, seval] | (with_reducible apply And.intro) | rfl | (refine ⟨_, rfl, ?_⟩) | (simp [comb0]; done) | omega)))
      · rintro ⟨k, hk⟩
        simp only
        by_cases hkr : k < rows.length
        · have hs := getD_map eR [] [] rows k hkr
          have hs2 := getD_map eI [] 0 c k (by omega)
          have hm := hr _ (mem_getD [] rows k hkr)
          have hN : combN p w c rows (k + 1) = addStep p (c.getD k 0) (combN p w c rows k) (rows.getD k []) (rows.getD k []).length := by rw [combN, hm.1]; simp
          have hx := all_getD hc (i := k) (by omega)
          generalize rows.getD k [] = r at hs hm hN
          generalize c.getD k 0 = x at *
          have e3 := (addTimes p x (combN p w c rows k) r (by omega) h2 hx (fun i hi => combN_in (by omega) (by rw [combN_len] at hi; exact hi)) (fun i hi => all_getD hm.2 hi) (by rw [combN_len]; have := hm.1; omega) (by have := hm.1; omega)).nm [(900000, 59, 0)] rfl rfl rfl rfl rfl rfl rfl rfl rfl
          repeat' (first | simp (maxSteps := 9999999) only [↓GE, PL, PP, EE, QQ, seval, hs, hs2, eR, eI, List.length_map] | (simp (disch := omega) only [IntWalk.i64_in]) | (refine go_brD (fun h => ?_) (fun h => ?_)) | (refine go_gsD (by ((try simp only [EE, QQ, seval]) <;> rfl)) (fun h => ?_) (fun h => ?_)) | (refine go_br (fun h => ?_) (fun h => ?_)) | (refine go_gs (by ((try simp only [EE, QQ, seval]) <;> rfl)) (fun h => ?_) (fun h => ?_)) | (apply go_call 5000 (e3) rfl rfl; (· ((try simp only [CC, LL, NM, EE, QQ, seval]) <;> (first | rfl | ((repeat constructor); done)))); (· exact CallForm.lent (by (try simp only [CC, LL, NM, EE, QQ, seval]); repeat' (first | trivial | (with_reducible rfl) | omega | (with_reducible apply And.intro) | rfl)) rfl rfl); (· ((try simp only [CC, LL, NM, EE, QQ, seval]) <;> (first | rfl | ((repeat constructor); done)))); (· ((try simp only [CC, LL, NM, EE, QQ, seval]) <;> (first | rfl | ((repeat constructor); done))))) | (with_reducible apply And.intro) | (with_reducible exact trivial) | omega | (simp only [List.length_map, List.length_cons, List.length_nil] at *; omega) | (show _ = true; first | rfl | kernel_rfl))
          refine ⟨⟨k + 1, hkr⟩, ?_, by simp only; omega⟩
          (simp only [GeS]; refine ⟨?_, ?_, ?_, ?_⟩; all_goals (repeat' (first | trivial | (with_reducible rfl) | simp only [CC, LL, EE, QQ, seval] | (with_reducible apply And.intro) | rfl | (refine ⟨_, rfl, ?_⟩) | (simp [hN, O.addv]; done) | omega)))
        · obtain rfl : k = rows.length := by omega
          repeat' (first | simp (maxSteps := 9999999) only [↓GE, PL, PP, EE, QQ, seval] | (simp (disch := omega) only [IntWalk.i64_in]) | (refine go_brD (fun h => ?_) (fun h => ?_)) | (refine go_gsD (by ((try simp only [EE, QQ, seval]) <;> rfl)) (fun h => ?_) (fun h => ?_)) | (refine go_br (fun h => ?_) (fun h => ?_)) | (refine go_gs (by ((try simp only [EE, QQ, seval]) <;> rfl)) (fun h => ?_) (fun h => ?_)) | (with_reducible apply And.intro) | (with_reducible exact trivial) | omega | (simp only [List.length_map, List.length_cons, List.length_nil] at *; omega) | (show _ = true; first | rfl | kernel_rfl))
          all_goals ((first | apply ret_mk [] | apply end_mk []); (· ((try simp only [CC, LL, EE, QQ, seval]) <;> rfl)); (· ((try simp only [CC, LL, EE, QQ, seval]) <;> repeat' (first | (with_reducible apply And.intro) | rfl | trivial | (exact ⟨_, rfl⟩) | (exact ⟨_, _, _, rfl⟩) | (simp [*, combL]; done) | (simp [*, combL]; omega) | (simp_all [combL]; done) | (simp_all [combL]; omega)))); all_goals (first | trivial | decide | ((try simp only [CC, LL, EE, QQ, seval]) <;> repeat' (first | (with_reducible apply And.intro) | (exact ⟨_, rfl, rfl, rfl⟩) | (exact ⟨_, _, _, rfl⟩) | (exact ⟨_, rfl⟩) | trivial | rfl | (simp; done)))))
end Go.Proofs.Ytilkjcobkdjlkaa.Sim
