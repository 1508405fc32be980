/- Rows times factors and sums of lists, by the reference. -/
import Derived.Test.YtilkjcobkdjlkaaUhE
namespace Go.Proofs.Ytilkjcobkdjlkaa.Sim
open Go
set_option maxRecDepth 100000
set_option maxHeartbeats 4000000
set_option linter.unusedVariables false
set_option linter.unusedSimpArgs false
attribute [local irreducible] Go Mean
theorem in_list {p a : Int} : (fieldB p && [a].all (inE p)) = (fieldB p && inE p a) := by simp
theorem r4combine (p : Int) (w : Nat) (c : List Int) (rows : List (List Int)) (hf : fieldB p = true) (hw : w ≤ 64) (hlen : c.length = rows.length) (hr : RowsOK p w rows) (hb : rows.length ≤ 1024) : Does Try.prog 19 [.ag [I p], .d (dInts c), .d (dRows rows), I w] [] (if c.all (inE p) = true then .tu [.d (dInts (combL p w c rows)), I 0] else .tu [.nl 1, I 9]) [] [] := by
  refine go_ref04_Combine rfl BxOK.nil fun cx hm0 => go_in 5000 ?_
  unfold ac_ref04_Combine rs_ref04_Combine
  obtain ⟨h1, h2, h3⟩ := fieldB_iff.1 hf
  have e1 := r3check p
  rw [hf, if_pos rfl] at e1
  have e2 := r3in p c (by omega)
  rw [hf, Bool.true_and] at e2
  have q0 : decide ((w : Int) > 64) = false := decide_eq_false (by omega)
  have q1 : ((c.length : Int) != (rows.length : Int)) = false := by rw [hlen]; simp
  repeat' (first | simp (maxSteps := 9999999) only [↓GE, PL, PP, EE, QQ, seval, q0, q1, List.length_map] | (simp (disch := omega) only [IntWalk.i64_in]) | (refine go_brD (fun h => ?_) (fun h => ?_)) | (refine go_gsD (by ((try simp only [EE, QQ, seval]) <;> rfl)) (fun h => ?_) (fun h => ?_)) | (refine go_br (fun h => ?_) (fun h => ?_)) | (refine go_gs (by ((try simp only [EE, QQ, seval]) <;> rfl)) (fun h => ?_) (fun h => ?_)) | (apply go_call 5000 (e1) rfl rfl; (· ((try simp only [CC, LL, NM, EE, QQ, seval]) <;> (first | rfl | ((repeat constructor); done)))); (· exact CallForm.plain rfl); (· ((try simp only [CC, LL, NM, EE, QQ, seval]) <;> (first | rfl | ((repeat constructor); done)))); (· ((try simp only [CC, LL, NM, EE, QQ, seval]) <;> (first | rfl | ((repeat constructor); done))))) | (with_reducible apply And.intro) | (with_reducible exact trivial) | omega | (simp only [List.length_map, List.length_cons, List.length_nil] at *; omega) | (show _ = true; first | rfl | kernel_rfl))
  refine go_loop 5000 hm0 (ι := {k : Nat // k ≤ rows.length}) (fun i => [(1, .d (dInts c)), (2, .d (dRows rows)), (3, I w), (4, .bp 4 0 0), (36, .d (dRows rows)), (37, I rows.length), (38, I i.1)]) (fun i => [(4, .box 0 [I p])]) (fun i => rows.length - i.1) [] ⟨0, Nat.zero_le _⟩ ?_ ?_
  · (simp only [GeS]; refine ⟨?_, ?_, ?_, ?_⟩; all_goals (repeat' (first | trivial | (with_reducible rfl) | simp only [CC, LL, EE, QQ, seval] | (with_reducible apply And.intro) | rfl | (refine ⟨_, rfl, ?_⟩) | (simp; done) | omega)))
  · rintro ⟨k, hk⟩
    simp only
    by_cases hkr : k < rows.length
    · have hs := getD_map eR [] [] rows k hkr
      have hm := hr _ (mem_getD [] rows k hkr)
      generalize rows.getD k [] = r at hs hm
      have q2 : ((r.length : Int) != (w : Int)) = false := by have := hm.1; simp; omega
      repeat' (first | simp (maxSteps := 9999999) only [↓GE, PL, PP, EE, QQ, seval, hs, q2, eR, List.length_map] | (simp (disch := omega) only [IntWalk.i64_in]) | (refine go_brD (fun h => ?_) (fun h => ?_)) | (refine go_gsD (by ((try simp only [EE, QQ, seval]) <;> rfl)) (fun h => ?_) (fun h => ?_)) | (refine go_br (fun h => ?_) (fun h => ?_)) | (refine go_gs (by ((try simp only [EE, QQ, seval]) <;> rfl)) (fun h => ?_) (fun h => ?_)) | (with_reducible apply And.intro) | (with_reducible exact trivial) | omega | (simp only [List.length_map, List.length_cons, List.length_nil] at *; omega) | (show _ = true; first | rfl | kernel_rfl))
      refine ⟨⟨k + 1, hkr⟩, ?_, by simp only; omega⟩
      (simp only [GeS]; refine ⟨?_, ?_, ?_, ?_⟩; all_goals (repeat' (first | trivial | (with_reducible rfl) | simp only [CC, LL, EE, QQ, seval] | (with_reducible apply And.intro) | rfl | (refine ⟨_, rfl, ?_⟩) | (simp; done) | omega)))
    · obtain rfl : k = rows.length := by omega
      cases hc : c.all (inE p) with
      | false =>
        rw [hc] at e2
        rw [if_neg (by simp)]
        repeat' (first | simp (maxSteps := 9999999) only [↓GE, PL, PP, EE, QQ, seval] | (simp (disch := omega) only [IntWalk.i64_in]) | (refine go_brD (fun h => ?_) (fun h => ?_)) | (refine go_gsD (by ((try simp only [EE, QQ, seval]) <;> rfl)) (fun h => ?_) (fun h => ?_)) | (refine go_br (fun h => ?_) (fun h => ?_)) | (refine go_gs (by ((try simp only [EE, QQ, seval]) <;> rfl)) (fun h => ?_) (fun h => ?_)) | (apply go_call 5000 (e2) rfl rfl; (· ((try simp only [CC, LL, NM, EE, QQ, seval]) <;> (first | rfl | ((repeat constructor); done)))); (· exact CallForm.plain rfl); (· ((try simp only [CC, LL, NM, EE, QQ, seval]) <;> (first | rfl | ((repeat constructor); done)))); (· ((try simp only [CC, LL, NM, EE, QQ, seval]) <;> (first | rfl | ((repeat constructor); done))))) | (with_reducible apply And.intro) | (with_reducible exact trivial) | omega | (simp only [List.length_map, List.length_cons, List.length_nil] at *; omega) | (show _ = true; first | rfl | kernel_rfl))
        all_goals ((first | apply ret_mk [] | apply end_mk []); (· ((try simp only [CC, LL, EE, QQ, seval]) <;> rfl)); (· ((try simp only [CC, LL, EE, QQ, seval]) <;> repeat' (first | (with_reducible apply And.intro) | rfl | trivial | (exact ⟨_, rfl⟩) | (exact ⟨_, _, _, rfl⟩) | (simp [*, ]; done) | (simp [*, ]; omega) | (simp_all []; done) | (simp_all []; omega)))); all_goals (first | trivial | decide | ((try simp only [CC, LL, EE, QQ, seval]) <;> repeat' (first | (with_reducible apply And.intro) | (exact ⟨_, rfl, rfl, rfl⟩) | (exact ⟨_, _, _, rfl⟩) | (exact ⟨_, rfl⟩) | trivial | rfl | (simp; done)))))
      | true =>
      rw [hc] at e2
      rw [if_pos rfl]
      repeat' (first | simp (maxSteps := 9999999) only [↓GE, PL, PP, EE, QQ, seval, List.length_map] | (simp (disch := omega) only [IntWalk.i64_in]) | (refine go_brD (fun h => ?_) (fun h => ?_)) | (refine go_gsD (by ((try simp only [EE, QQ, seval]) <;> rfl)) (fun h => ?_) (fun h => ?_)) | (refine go_br (fun h => ?_) (fun h => ?_)) | (refine go_gs (by ((try simp only [EE, QQ, seval]) <;> rfl)) (fun h => ?_) (fun h => ?_)) | (apply go_call 5000 (e2) rfl rfl; (· ((try simp only [CC, LL, NM, EE, QQ, seval]) <;> (first | rfl | ((repeat constructor); done)))); (· exact CallForm.plain rfl); (· ((try simp only [CC, LL, NM, EE, QQ, seval]) <;> (first | rfl | ((repeat constructor); done)))); (· ((try simp only [CC, LL, NM, EE, QQ, seval]) <;> (first | rfl | ((repeat constructor); done))))) | (with_reducible apply And.intro) | (with_reducible exact trivial) | omega | (simp only [List.length_map, List.length_cons, List.length_nil] at *; omega) | (show _ = true; first | rfl | kernel_rfl))
      refine go_loop 5000 hm0 (ι := {k : Nat // k ≤ rows.length}) (fun i => [(1, .d (dInts c)), (2, .d (dRows rows)), (3, I w), (4, .bp 4 0 0), (51, .d (dRows rows)), (52, I rows.length), (53, I i.1)]) (fun i => [(4, .box 0 [I p])]) (fun i => rows.length - i.1) [] ⟨0, Nat.zero_le _⟩ ?_ ?_
      · (simp only [GeS]; refine ⟨?_, ?_, ?_, ?_⟩; all_goals (repeat' (first | trivial | (with_reducible rfl) | simp only [CC, LL, EE, QQ, seval] | (with_reducible apply And.intro) | rfl | (refine ⟨_, rfl, ?_⟩) | (simp; done) | omega)))
      · rintro ⟨k, hk⟩
        simp only
        by_cases hkr : k < rows.length
        · have hs := getD_map eR [] [] rows k hkr
          have hm := hr _ (mem_getD [] rows k hkr)
          generalize rows.getD k [] = r at hs hm
          have e3 := r3in p r (by have := hm.1; omega)
          rw [hf, Bool.true_and, hm.2] at e3
          repeat' (first | simp (maxSteps := 9999999) only [↓GE, PL, PP, EE, QQ, seval, hs, eR, List.length_map] | (simp (disch := omega) only [IntWalk.i64_in]) | (refine go_brD (fun h => ?_) (fun h => ?_)) | (refine go_gsD (by ((try simp only [EE, QQ, seval]) <;> rfl)) (fun h => ?_) (fun h => ?_)) | (refine go_br (fun h => ?_) (fun h => ?_)) | (refine go_gs (by ((try simp only [EE, QQ, seval]) <;> rfl)) (fun h => ?_) (fun h => ?_)) | (apply go_call 5000 (e3) rfl rfl; (· ((try simp only [CC, LL, NM, EE, QQ, seval]) <;> (first | rfl | ((repeat constructor); done)))); (· exact CallForm.plain rfl); (· ((try simp only [CC, LL, NM, EE, QQ, seval]) <;> (first | rfl | ((repeat constructor); done)))); (· ((try simp only [CC, LL, NM, EE, QQ, seval]) <;> (first | rfl | ((repeat constructor); done))))) | (with_reducible apply And.intro) | (with_reducible exact trivial) | omega | (simp only [List.length_map, List.length_cons, List.length_nil] at *; omega) | (show _ = true; first | rfl | kernel_rfl))
          refine ⟨⟨k + 1, hkr⟩, ?_, by simp only; omega⟩
          (simp only [GeS]; refine ⟨?_, ?_, ?_, ?_⟩; all_goals (repeat' (first | trivial | (with_reducible rfl) | simp only [CC, LL, EE, QQ, seval] | (with_reducible apply And.intro) | rfl | (refine ⟨_, rfl, ?_⟩) | (simp; done) | omega)))
        · obtain rfl : k = rows.length := by omega
          repeat' (first | simp (maxSteps := 9999999) only [↓GE, PL, PP, EE, QQ, seval, List.length_map] | (simp (disch := omega) only [IntWalk.i64_in]) | (refine go_brD (fun h => ?_) (fun h => ?_)) | (refine go_gsD (by ((try simp only [EE, QQ, seval]) <;> rfl)) (fun h => ?_) (fun h => ?_)) | (refine go_br (fun h => ?_) (fun h => ?_)) | (refine go_gs (by ((try simp only [EE, QQ, seval]) <;> rfl)) (fun h => ?_) (fun h => ?_)) | (with_reducible apply And.intro) | (with_reducible exact trivial) | omega | (simp only [List.length_map, List.length_cons, List.length_nil] at *; omega) | (show _ = true; first | rfl | kernel_rfl))
          refine go_loop 5000 hm0 (ι := {k : Nat // k ≤ rows.length}) (fun i => [(1, .d (dInts c)), (4, .bp 4 0 0), (15, .og 63 0), (64, .d (dRows rows)), (65, I rows.length), (66, I i.1)]) (fun i => [(4, .box 0 [I p]), (63, .arr 0 1 true ((combN p w c rows i.1).map eI))]) (fun i => rows.length - i.1) [] ⟨0, Nat.zero_le _⟩ ?_ ?_
          · (simp only [GeS]; refine ⟨?_, ?_, ?_, ?_⟩; all_goals (repeat' (first | trivial | (with_reducible rfl) | simp only [CC, LL, EE, QQ, seval] | (with_reducible apply And.intro) | rfl | (refine ⟨_, rfl, ?_⟩) | (simp [comb0]; done) | omega)))
          · rintro ⟨k, hk⟩
            simp only
            by_cases hkr : k < rows.length
            · have hs := getD_map eR [] [] rows k hkr
              have hs2 := getD_map eI [] 0 c k (by omega)
              have hm := hr _ (mem_getD [] rows k hkr)
              have hN : combN p w c rows (k + 1) = addStep p (c.getD k 0) (combN p w c rows k) (rows.getD k []) (rows.getD k []).length := by rw [combN, hm.1]; simp
              have hx := all_getD hc (i := k) (by omega)
              have hT : ∀ i, i < w → 0 ≤ (combN p w c rows k).getD i 0 ∧ (combN p w c rows k).getD i 0 < p := fun i hi => combN_in (by omega) hi
              have hTl := combN_len (p := p) (w := w) (c := c) (rows := rows) (n := k)
              have hG1 := fun i => getD_map eI [] 0 c i
              generalize rows.getD k [] = r at hs hm hN
              have hrl := hm.1
              generalize c.getD k 0 = x at *
              generalize combN p w c rows k = tl0 at *
              repeat' (first | simp (maxSteps := 9999999) only [↓GE, PL, PP, EE, QQ, seval, hs, eR, List.length_map] | (simp (disch := omega) only [IntWalk.i64_in]) | (refine go_brD (fun h => ?_) (fun h => ?_)) | (refine go_gsD (by ((try simp only [EE, QQ, seval]) <;> rfl)) (fun h => ?_) (fun h => ?_)) | (refine go_br (fun h => ?_) (fun h => ?_)) | (refine go_gs (by ((try simp only [EE, QQ, seval]) <;> rfl)) (fun h => ?_) (fun h => ?_)) | (with_reducible apply And.intro) | (with_reducible exact trivial) | omega | (simp only [List.length_map, List.length_cons, List.length_nil] at *; omega) | (show _ = true; first | rfl | kernel_rfl))
              refine go_loop 5000 hm0 (ι := {j : Nat // j ≤ r.length}) (fun i => [(1, .d (dInts c)), (4, .bp 4 0 0), (15, .og 63 0), (16, I k), (64, .d (dRows rows)), (65, I rows.length), (66, I k), (71, .d (dInts r)), (72, I r.length), (73, I i.1)]) (fun i => [(4, .box 0 [I p]), (63, .arr 0 1 true ((addStep p x tl0 r i.1).map eI))]) (fun i => r.length - i.1) [] ⟨0, Nat.zero_le _⟩ ?_ ?_
              · (simp only [GeS]; refine ⟨?_, ?_, ?_, ?_⟩; all_goals (repeat' (first | trivial | (with_reducible rfl) | simp only [CC, LL, EE, QQ, seval] | (with_reducible apply And.intro) | rfl | (refine ⟨_, rfl, ?_⟩) | (simp [addStep_zero]; done) | omega)))
              · rintro ⟨j, hj⟩
                simp only
                by_cases hjr : j < r.length
                · have hs1 := getD_map eI [] 0 r j hjr
                  have hs3 := getD_map eI [] 0 (addStep p x tl0 r j) j (by rw [addStep_len]; omega)
                  rw [addStep_get (by omega), if_neg (by omega)] at hs3
                  have hn := addStep_next (p := p) (x := x) (r := r) (show j < tl0.length by omega)
                  have b1 := hT j (by omega)
                  have b2 := all_getD hm.2 hjr
                  have qk : j < (addStep p x tl0 r j).length := by rw [addStep_len]; omega
                  generalize tl0.getD j 0 = a at *
                  generalize r.getD j 0 = b at *
                  have hmul := mul_in (p := p) (by omega) h2 hx b2
                  have w0 : IntKind.i64.wrap (x * b) = x * b := IntWalk.i64_in _ (by omega)
                  have w1 : IntKind.i64.wrap (a + x * b) = a + x * b := IntWalk.i64_in _ (by omega)
                  have em : (a + x * b).tmod p = (a + x * b % p) % p := by rw [Int.tmod_eq_emod_of_nonneg (by omega), Int.add_emod_emod]
                  repeat' (first | simp (maxSteps := 9999999) only [↓GE, PL, PP, EE, QQ, seval, hs1, hs2, hs3, qk, w0, w1, em, eI, List.length_map] | (simp (disch := omega) only [IntWalk.i64_in]) | (refine go_brD (fun h => ?_) (fun h => ?_)) | (refine go_gsD (by ((try simp only [EE, QQ, seval]) <;> rfl)) (fun h => ?_) (fun h => ?_)) | (refine go_br (fun h => ?_) (fun h => ?_)) | (refine go_gs (by ((try simp only [EE, QQ, seval]) <;> rfl)) (fun h => ?_) (fun h => ?_)) | (with_reducible apply And.intro) | (with_reducible exact trivial) | omega | (simp only [List.length_map, List.length_cons, List.length_nil] at *; omega) | (show _ = true; first | rfl | kernel_rfl))
                  refine ⟨⟨j + 1, hjr⟩, ?_, by simp only; omega⟩
                  (simp only [GeS]; refine ⟨?_, ?_, ?_, ?_⟩; all_goals (repeat' (first | trivial | (with_reducible rfl) | simp only [CC, LL, EE, QQ, seval] | (with_reducible apply And.intro) | rfl | (refine ⟨_, rfl, ?_⟩) | (simp [← hn, List.map_set, eI]; done) | omega)))
                · obtain rfl : j = r.length := by omega
                  repeat' (first | simp (maxSteps := 9999999) only [↓GE, PL, PP, EE, QQ, seval] | (simp (disch := omega) only [IntWalk.i64_in]) | (refine go_brD (fun h => ?_) (fun h => ?_)) | (refine go_gsD (by ((try simp only [EE, QQ, seval]) <;> rfl)) (fun h => ?_) (fun h => ?_)) | (refine go_br (fun h => ?_) (fun h => ?_)) | (refine go_gs (by ((try simp only [EE, QQ, seval]) <;> rfl)) (fun h => ?_) (fun h => ?_)) | (with_reducible apply And.intro) | (with_reducible exact trivial) | omega | (simp only [List.length_map, List.length_cons, List.length_nil] at *; omega) | (show _ = true; first | rfl | kernel_rfl))
                  refine ⟨⟨k + 1, hkr⟩, ?_, by simp only; omega⟩
                  (simp only [GeS]; refine ⟨?_, ?_, ?_, ?_⟩; all_goals (repeat' (first | trivial | (with_reducible rfl) | simp only [CC, LL, EE, QQ, seval] | (with_reducible apply And.intro) | rfl | (refine ⟨_, rfl, ?_⟩) | (simp [hN]; done) | omega)))
            · obtain rfl : k = rows.length := by omega
              repeat' (first | simp (maxSteps := 9999999) only [↓GE, PL, PP, EE, QQ, seval] | (simp (disch := omega) only [IntWalk.i64_in]) | (refine go_brD (fun h => ?_) (fun h => ?_)) | (refine go_gsD (by ((try simp only [EE, QQ, seval]) <;> rfl)) (fun h => ?_) (fun h => ?_)) | (refine go_br (fun h => ?_) (fun h => ?_)) | (refine go_gs (by ((try simp only [EE, QQ, seval]) <;> rfl)) (fun h => ?_) (fun h => ?_)) | (with_reducible apply And.intro) | (with_reducible exact trivial) | omega | (simp only [List.length_map, List.length_cons, List.length_nil] at *; omega) | (show _ = true; first | rfl | kernel_rfl))
              all_goals ((first | apply ret_mk [] | apply end_mk []); (· ((try simp only [CC, LL, EE, QQ, seval]) <;> rfl)); (· ((try simp only [CC, LL, EE, QQ, seval]) <;> repeat' (first | (with_reducible apply And.intro) | rfl | trivial | (exact ⟨_, rfl⟩) | (exact ⟨_, _, _, rfl⟩) | (simp [*, combL]; done) | (simp [*, combL]; omega) | (simp_all [combL]; done) | (simp_all [combL]; omega)))); all_goals (first | trivial | decide | ((try simp only [CC, LL, EE, QQ, seval]) <;> repeat' (first | (with_reducible apply And.intro) | (exact ⟨_, rfl, rfl, rfl⟩) | (exact ⟨_, _, _, rfl⟩) | (exact ⟨_, rfl⟩) | trivial | rfl | (simp; done)))))
def addN (p : Int) (a b : List Int) (n : Nat) : List Int := (List.range n).map fun i => (a.getD i 0 + b.getD i 0) % p
theorem addN_len {p : Int} {a b : List Int} {n : Nat} : (addN p a b n).length = n := by simp [addN]
def addL (p : Int) (a b : List Int) : List Int := addN p a b a.length
theorem r4two (p : Int) (a b : List Int) (hf : fieldB p = true) (ha : a.all (inE p) = true) (hb : b.all (inE p) = true) (hl : a.length = b.length) (hn : a.length ≤ 100000) : Does Try.prog 71 [.ag [I p], .d (dInts a), .d (dInts b)] [] (I 0) [] [] := by
  refine go_ref04_two rfl BxOK.nil fun cx hm0 => go_in 5000 ?_
  unfold ac_ref04_two rs_ref04_two
  have e1 := r3in p a (by omega)
  have e2 := r3in p b (by omega)
  rw [hf, Bool.true_and, ha] at e1
  rw [hf, Bool.true_and, hb] at e2
  have q1 : ((a.length : Int) != (b.length : Int)) = false := by rw [hl]; simp
  repeat' (first | simp (maxSteps := 9999999) only [↓GE, PL, PP, EE, QQ, seval, q1, List.length_map] | (simp (disch := omega) only [IntWalk.i64_in]) | (refine go_brD (fun h => ?_) (fun h => ?_)) | (refine go_gsD (by ((try simp only [EE, QQ, seval]) <;> rfl)) (fun h => ?_) (fun h => ?_)) | (refine go_br (fun h => ?_) (fun h => ?_)) | (refine go_gs (by ((try simp only [EE, QQ, seval]) <;> rfl)) (fun h => ?_) (fun h => ?_)) | (apply go_call 5000 (e1) rfl rfl; (· ((try simp only [CC, LL, NM, EE, QQ, seval]) <;> (first | rfl | ((repeat constructor); done)))); (· exact CallForm.plain rfl); (· ((try simp only [CC, LL, NM, EE, QQ, seval]) <;> (first | rfl | ((repeat constructor); done)))); (· ((try simp only [CC, LL, NM, EE, QQ, seval]) <;> (first | rfl | ((repeat constructor); done))))) | (apply go_call 5000 (e2) rfl rfl; (· ((try simp only [CC, LL, NM, EE, QQ, seval]) <;> (first | rfl | ((repeat constructor); done)))); (· exact CallForm.plain rfl); (· ((try simp only [CC, LL, NM, EE, QQ, seval]) <;> (first | rfl | ((repeat constructor); done)))); (· ((try simp only [CC, LL, NM, EE, QQ, seval]) <;> (first | rfl | ((repeat constructor); done))))) | (with_reducible apply And.intro) | (with_reducible exact trivial) | omega | (simp only [List.length_map, List.length_cons, List.length_nil] at *; omega) | (show _ = true; first | rfl | kernel_rfl))
  all_goals ((first | apply ret_mk [] | apply end_mk []); (· ((try simp only [CC, LL, EE, QQ, seval]) <;> rfl)); (· ((try simp only [CC, LL, EE, QQ, seval]) <;> repeat' (first | (with_reducible apply And.intro) | rfl | trivial | (exact ⟨_, rfl⟩) | (exact ⟨_, _, _, rfl⟩) | (simp [*, ]; done) | (simp [*, ]; omega) | (simp_all []; done) | (simp_all []; omega)))); all_goals (first | trivial | decide | ((try simp only [CC, LL, EE, QQ, seval]) <;> repeat' (first | (with_reducible apply And.intro) | (exact ⟨_, rfl, rfl, rfl⟩) | (exact ⟨_, _, _, rfl⟩) | (exact ⟨_, rfl⟩) | trivial | rfl | (simp; done)))))
theorem r4add (p : Int) (a b : List Int) (hf : fieldB p = true) (ha : a.all (inE p) = true) (hb : b.all (inE p) = true) (hl : a.length = b.length) (hn : a.length ≤ 100000) : Does Try.prog 22 [.ag [I p], .d (dInts a), .d (dInts b)] [] (.tu [.d (dInts (addL p a b)), I 0]) [] [] := by
  refine go_ref04_Add rfl BxOK.nil fun cx hm0 => go_in 5000 ?_
  unfold ac_ref04_Add rs_ref04_Add
  obtain ⟨h1, h2, h3⟩ := fieldB_iff.1 hf
  repeat' (first | simp (maxSteps := 9999999) only [↓GE, PL, PP, EE, QQ, seval, List.length_map] | (simp (disch := omega) only [IntWalk.i64_in]) | (refine go_brD (fun h => ?_) (fun h => ?_)) | (refine go_gsD (by ((try simp only [EE, QQ, seval]) <;> rfl)) (fun h => ?_) (fun h => ?_)) | (refine go_br (fun h => ?_) (fun h => ?_)) | (refine go_gs (by ((try simp only [EE, QQ, seval]) <;> rfl)) (fun h => ?_) (fun h => ?_)) | (apply go_call 5000 (r4two p a b hf ha hb hl hn) rfl rfl; (· ((try simp only [CC, LL, NM, EE, QQ, seval]) <;> (first | rfl | ((repeat constructor); done)))); (· exact CallForm.plain rfl); (· ((try simp only [CC, LL, NM, EE, QQ, seval]) <;> (first | rfl | ((repeat constructor); done)))); (· ((try simp only [CC, LL, NM, EE, QQ, seval]) <;> (first | rfl | ((repeat constructor); done))))) | (with_reducible apply And.intro) | (with_reducible exact trivial) | omega | (simp only [List.length_map, List.length_cons, List.length_nil] at *; omega) | (show _ = true; first | rfl | kernel_rfl))
  refine go_loop 5000 hm0 (ι := {q : Nat × Nat // q.1 ≤ a.length}) (fun i => [(1, .d (dInts a)), (2, .d (dInts b)), (3, .bp 3 0 0), (9, .og 8 i.1.2), (19, I a.length), (20, I i.1.1)]) (fun i => [(3, .box 0 [I p]), (8, .arr i.1.2 1 true ((addN p a b i.1.1).map eI))]) (fun i => a.length - i.1.1) [8] ⟨(0, 0), by simp⟩ ?_ ?_
  · (simp only [GeS]; refine ⟨?_, ?_, ?_, ?_⟩; all_goals (repeat' (first | trivial | (with_reducible rfl) | simp only [CC, LL, EE, QQ, seval] | (with_reducible apply And.intro) | rfl | (refine ⟨_, rfl, ?_⟩) | (simp; done) | omega)))
  · rintro ⟨⟨j, v⟩, hj⟩
    simp only at hj
    by_cases hjn : j < a.length
    · have hs1 := getD_map eI [] 0 a j hjn
      have hs2 := getD_map eI [] 0 b j (by omega)
      have b1 := all_getD ha hjn
      have b2 := all_getD hb (i := j) (by omega)
      have hN : addN p a b (j + 1) = addN p a b j ++ [(a.getD j 0 + b.getD j 0) % p] := by unfold addN; rw [List.range_succ, List.map_append]; rfl
      generalize a.getD j 0 = x at hs1 b1 hN
      generalize b.getD j 0 = y at hs2 b2 hN
      have w1 : IntKind.i64.wrap (x + y) = x + y := IntWalk.i64_in _ (by omega)
      have em : (x + y).tmod p = (x + y) % p := Int.tmod_eq_emod_of_nonneg (by omega)
      repeat' (first | simp (maxSteps := 9999999) only [↓GE, PL, PP, EE, QQ, seval, hs1, hs2, w1, em, eI, List.length_map, addN_len] | (simp (disch := omega) only [IntWalk.i64_in]) | (refine go_brD (fun h => ?_) (fun h => ?_)) | (refine go_gsD (by ((try simp only [EE, QQ, seval]) <;> rfl)) (fun h => ?_) (fun h => ?_)) | (refine go_br (fun h => ?_) (fun h => ?_)) | (refine go_gs (by ((try simp only [EE, QQ, seval]) <;> rfl)) (fun h => ?_) (fun h => ?_)) | (with_reducible apply And.intro) | (with_reducible exact trivial) | omega | (simp only [List.length_map, List.length_cons, List.length_nil] at *; omega) | (show _ = true; first | rfl | kernel_rfl))
      refine ⟨⟨(j + 1, v + 1), hjn⟩, ?_, by simp only; omega⟩
      (simp only [GeS]; refine ⟨?_, ?_, ?_, ?_⟩; all_goals (repeat' (first | trivial | (with_reducible rfl) | simp only [CC, LL, EE, QQ, seval] | (with_reducible apply And.intro) | rfl | (refine ⟨_, rfl, ?_⟩) | (simp [hN, eI]; done) | omega)))
    · obtain rfl : j = a.length := by omega
      repeat' (first | simp (maxSteps := 9999999) only [↓GE, PL, PP, EE, QQ, seval] | (simp (disch := omega) only [IntWalk.i64_in]) | (refine go_brD (fun h => ?_) (fun h => ?_)) | (refine go_gsD (by ((try simp only [EE, QQ, seval]) <;> rfl)) (fun h => ?_) (fun h => ?_)) | (refine go_br (fun h => ?_) (fun h => ?_)) | (refine go_gs (by ((try simp only [EE, QQ, seval]) <;> rfl)) (fun h => ?_) (fun h => ?_)) | (with_reducible apply And.intro) | (with_reducible exact trivial) | omega | (simp only [List.length_map, List.length_cons, List.length_nil] at *; omega) | (show _ = true; first | rfl | kernel_rfl))
      all_goals ((first | apply ret_mk [] | apply end_mk []); (· ((try simp only [CC, LL, EE, QQ, seval]) <;> rfl)); (· ((try simp only [CC, LL, EE, QQ, seval]) <;> repeat' (first | (with_reducible apply And.intro) | rfl | trivial | (exact ⟨_, rfl⟩) | (exact ⟨_, _, _, rfl⟩) | (simp [*, addL]; done) | (simp [*, addL]; omega) | (simp_all [addL]; done) | (simp_all [addL]; omega)))); all_goals (first | trivial | decide | ((try simp only [CC, LL, EE, QQ, seval]) <;> repeat' (first | (with_reducible apply And.intro) | (exact ⟨_, rfl, rfl, rfl⟩) | (exact ⟨_, _, _, rfl⟩) | (exact ⟨_, rfl⟩) | trivial | rfl | (simp; done)))))
end Go.Proofs.Ytilkjcobkdjlkaa.Sim
