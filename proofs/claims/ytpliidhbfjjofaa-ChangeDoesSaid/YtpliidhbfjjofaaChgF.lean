/- Changes by the reference: find, Check. -/
import Derived.Test.YtpliidhbfjjofaaChgE
import Derived.Test.YtpliidhbfjjofaaChgP
namespace Go.Proofs.Ytpliidhbfjjofaa.Sim
open Go
set_option maxRecDepth 100000
set_option maxHeartbeats 4000000
set_option linter.unusedVariables false
set_option linter.unusedSimpArgs false
attribute [local irreducible] Go Mean
theorem r15find (c : PChg) (x : Int) (hc : c.sets.length ≤ 17592186044416) : Does Try.prog 54 [vChg c, I x] [] (.tu [.d (dInts ((findF x c.sets).getD [])), B (findF x c.sets).isSome]) [] [] := by
  refine go_ref15_find rfl BxOK.nil fun cx hm0 => go_in 5000 ?_
  unfold ac_ref15_find rs_ref15_find
  repeat' (first | simp only [↓GE, PL, PP, EE, QQ, seval] | (simp (disch := omega) only [IntWalk.i64_in]) | (refine go_brD (fun h => ?_) (fun h => ?_)) | (refine go_gsD (by ((try simp only [EE, QQ, seval]) <;> rfl)) (fun h => ?_) (fun h => ?_)) | (refine go_br (fun h => ?_) (fun h => ?_)) | (refine go_gs (by ((try simp only [EE, QQ, seval]) <;> rfl)) (fun h => ?_) (fun h => ?_)) | (with_reducible apply And.intro) | (with_reducible exact trivial) | omega | (simp only [List.length_map, List.length_cons, List.length_nil] at *; omega) | (show _ = true; first | rfl | kernel_rfl))
  refine go_loop 5000 hm0 (ι := {k : Nat // k ≤ c.sets.length ∧ findF x c.sets = findF x (c.sets.drop k)}) (fun i => [(1, I x), (2, .bp 2 0 0), (4, .nl 1), (5, B false), (9, .d (dSets c.sets)), (10, I c.sets.length), (11, I i.1)]) (fun i => [(2, .box 0 [I c.fr, I c.tt, I c.count, .d (dSets c.sets)])]) (fun i => c.sets.length - i.1) [] ⟨0, by simp⟩ ?_ ?_
  · (simp only [GeS]; refine ⟨?_, ?_, ?_, ?_⟩; all_goals (repeat' (first | trivial | (with_reducible rfl) | simp only [CC, EE, QQ, seval] | (with_reducible apply And.intro) | rfl | (refine ⟨_, rfl, ?_⟩) | (simp; done) | omega)))
  · rintro ⟨k, hk, hv⟩
    by_cases hkl : k < c.sets.length
    · have hs' := getD_map eSet [] noSet c.sets k hkl
      rw [drop_get noSet _ _ hkl, findF] at hv
      generalize c.sets.getD k noSet = s at hs' hv
      repeat' (first | simp only [↓GE, PL, PP, EE, QQ, seval, hs', eSet] | (simp (disch := omega) only [IntWalk.i64_in]) | (refine go_brD (fun h => ?_) (fun h => ?_)) | (refine go_gsD (by ((try simp only [EE, QQ, seval]) <;> rfl)) (fun h => ?_) (fun h => ?_)) | (refine go_br (fun h => ?_) (fun h => ?_)) | (refine go_gs (by ((try simp only [EE, QQ, seval]) <;> rfl)) (fun h => ?_) (fun h => ?_)) | (with_reducible apply And.intro) | (with_reducible exact trivial) | omega | (simp only [List.length_map, List.length_cons, List.length_nil] at *; omega) | (show _ = true; first | rfl | kernel_rfl))
      · rw [if_pos (by simpa using h)] at hv
        ((first | apply ret_mk [] | apply end_mk []); (· ((try simp only [CC, EE, QQ, seval]) <;> rfl)); (· ((try simp only [CC, EE, QQ, seval]) <;> repeat' (first | (with_reducible apply And.intro) | rfl | trivial | (exact ⟨_, rfl⟩) | (exact ⟨_, _, _, rfl⟩) | (simp [*, hv]; done) | (simp [*, hv]; omega) | (simp_all [hv]; done) | (simp_all [hv]; omega)))); all_goals (first | trivial | decide | ((try simp only [CC, EE, QQ, seval]) <;> repeat' (first | (with_reducible apply And.intro) | (exact ⟨_, rfl, rfl, rfl⟩) | (exact ⟨_, _, _, rfl⟩) | (exact ⟨_, rfl⟩) | trivial | rfl | (simp; done)))))
      · rw [if_neg (by simpa using h)] at hv
        refine ⟨⟨k + 1, hkl, hv⟩, ?_, by simp only; omega⟩
        (simp only [GeS]; refine ⟨?_, ?_, ?_, ?_⟩; all_goals (repeat' (first | trivial | (with_reducible rfl) | simp only [CC, EE, QQ, seval] | (with_reducible apply And.intro) | rfl | (refine ⟨_, rfl, ?_⟩) | (simp; done) | omega)))
    · have : k = c.sets.length := by omega
      subst this
      simp only [List.drop_length, findF] at hv
      repeat' (first | simp only [↓GE, PL, PP, EE, QQ, seval] | (simp (disch := omega) only [IntWalk.i64_in]) | (refine go_brD (fun h => ?_) (fun h => ?_)) | (refine go_gsD (by ((try simp only [EE, QQ, seval]) <;> rfl)) (fun h => ?_) (fun h => ?_)) | (refine go_br (fun h => ?_) (fun h => ?_)) | (refine go_gs (by ((try simp only [EE, QQ, seval]) <;> rfl)) (fun h => ?_) (fun h => ?_)) | (with_reducible apply And.intro) | (with_reducible exact trivial) | omega | (simp only [List.length_map, List.length_cons, List.length_nil] at *; omega) | (show _ = true; first | rfl | kernel_rfl))
      all_goals ((first | apply ret_mk [] | apply end_mk []); (· ((try simp only [CC, EE, QQ, seval]) <;> rfl)); (· ((try simp only [CC, EE, QQ, seval]) <;> repeat' (first | (with_reducible apply And.intro) | rfl | trivial | (exact ⟨_, rfl⟩) | (exact ⟨_, _, _, rfl⟩) | (simp [*, hv]; done) | (simp [*, hv]; omega) | (simp_all [hv]; done) | (simp_all [hv]; omega)))); all_goals (first | trivial | decide | ((try simp only [CC, EE, QQ, seval]) <;> repeat' (first | (with_reducible apply And.intro) | (exact ⟨_, rfl, rfl, rfl⟩) | (exact ⟨_, _, _, rfl⟩) | (exact ⟨_, rfl⟩) | trivial | rfl | (simp; done)))))
theorem r15check (t : PTab) (c : PChg) (hl : t.rows.length ≤ 17592186044416) (hs : Short t.rows) (hc : c.sets.length ≤ 17592186044416) (hd : ShortS c.sets) : Does Try.prog 31 [vTab t, vChg c] [] (I (checkC t c)) [] [] := by
  refine go_ref15_Check rfl BxOK.nil fun cx hm0 => go_in 5000 ?_
  unfold ac_ref15_Check rs_ref15_Check
  by_cases h1 : checkT t = 0
  case neg =>
    have hv : checkC t c = checkT t := by simp [checkC, h1]
    have h1' : (checkT t != 0) = true := by simpa using h1
    repeat' (first | simp only [↓GE, PL, PP, EE, QQ, seval, h1'] | (simp (disch := omega) only [IntWalk.i64_in]) | (refine go_brD (fun h => ?_) (fun h => ?_)) | (refine go_gsD (by ((try simp only [EE, QQ, seval]) <;> rfl)) (fun h => ?_) (fun h => ?_)) | (refine go_br (fun h => ?_) (fun h => ?_)) | (refine go_gs (by ((try simp only [EE, QQ, seval]) <;> rfl)) (fun h => ?_) (fun h => ?_)) | (apply go_call 5000 (r14check t hl hs) rfl rfl; (· ((try simp only [CC, EE, QQ, seval]) <;> (first | rfl | ((repeat constructor); done)))); (· exact CallForm.plain rfl); (· ((try simp only [CC, EE, QQ, seval]) <;> (first | rfl | ((repeat constructor); done)))); (· ((try simp only [CC, EE, QQ, seval]) <;> (first | rfl | ((repeat constructor); done))))) | (with_reducible apply And.intro) | (with_reducible exact trivial) | omega | (simp only [List.length_map, List.length_cons, List.length_nil] at *; omega) | (show _ = true; first | rfl | kernel_rfl))
    all_goals ((first | apply ret_mk [] | apply end_mk []); (· ((try simp only [CC, EE, QQ, seval]) <;> rfl)); (· ((try simp only [CC, EE, QQ, seval]) <;> repeat' (first | (with_reducible apply And.intro) | rfl | trivial | (exact ⟨_, rfl⟩) | (exact ⟨_, _, _, rfl⟩) | (simp [*, hv]; done) | (simp [*, hv]; omega) | (simp_all [hv]; done) | (simp_all [hv]; omega)))); all_goals (first | trivial | decide | ((try simp only [CC, EE, QQ, seval]) <;> repeat' (first | (with_reducible apply And.intro) | (exact ⟨_, rfl, rfl, rfl⟩) | (exact ⟨_, _, _, rfl⟩) | (exact ⟨_, rfl⟩) | trivial | rfl | (simp; done)))))
  obtain ⟨hf, hr, hn1, hn2, hw1, hw2, hre⟩ := checkT_ok h1
  cases h2 : formF c with
  | false =>
    have hv : checkC t c = 2 := by simp [checkC, h1, h2]
    repeat' (first | simp only [↓GE, PL, PP, EE, QQ, seval, h1, h2] | (simp (disch := omega) only [IntWalk.i64_in]) | (refine go_brD (fun h => ?_) (fun h => ?_)) | (refine go_gsD (by ((try simp only [EE, QQ, seval]) <;> rfl)) (fun h => ?_) (fun h => ?_)) | (refine go_br (fun h => ?_) (fun h => ?_)) | (refine go_gs (by ((try simp only [EE, QQ, seval]) <;> rfl)) (fun h => ?_) (fun h => ?_)) | (apply go_call 5000 (r14check t hl hs) rfl rfl; (· ((try simp only [CC, EE, QQ, seval]) <;> (first | rfl | ((repeat constructor); done)))); (· exact CallForm.plain rfl); (· ((try simp only [CC, EE, QQ, seval]) <;> (first | rfl | ((repeat constructor); done)))); (· ((try simp only [CC, EE, QQ, seval]) <;> (first | rfl | ((repeat constructor); done))))) | (apply go_call 5000 (r15form c hc) rfl rfl; (· ((try simp only [CC, EE, QQ, seval]) <;> (first | rfl | ((repeat constructor); done)))); (· exact CallForm.plain rfl); (· ((try simp only [CC, EE, QQ, seval]) <;> (first | rfl | ((repeat constructor); done)))); (· ((try simp only [CC, EE, QQ, seval]) <;> (first | rfl | ((repeat constructor); done))))) | (with_reducible apply And.intro) | (with_reducible exact trivial) | omega | (simp only [List.length_map, List.length_cons, List.length_nil] at *; omega) | (show _ = true; first | rfl | kernel_rfl))
    all_goals ((first | apply ret_mk [] | apply end_mk []); (· ((try simp only [CC, EE, QQ, seval]) <;> rfl)); (· ((try simp only [CC, EE, QQ, seval]) <;> repeat' (first | (with_reducible apply And.intro) | rfl | trivial | (exact ⟨_, rfl⟩) | (exact ⟨_, _, _, rfl⟩) | (simp [*, hv]; done) | (simp [*, hv]; omega) | (simp_all [hv]; done) | (simp_all [hv]; omega)))); all_goals (first | trivial | decide | ((try simp only [CC, EE, QQ, seval]) <;> repeat' (first | (with_reducible apply And.intro) | (exact ⟨_, rfl, rfl, rfl⟩) | (exact ⟨_, _, _, rfl⟩) | (exact ⟨_, rfl⟩) | trivial | rfl | (simp; done)))))
  | true =>
    obtain ⟨hf1, hf2, hf3, hf4, hf5, hf6⟩ := formF_ok h2
    have hv0 : checkC t c = if c.fr ≠ t.num then 17 else if setsErr t.p t.width c.sets ≠ 0 then setsErr t.p t.width c.sets else if (behindF t.rows.length c.sets : Int) ≠ max 0 (c.count - t.rows.length) then 2 else 0 := by
      rw [checkC, if_neg (by simp [h1]), if_neg (by simp [h2])]
    repeat' (first | simp only [↓GE, PL, PP, EE, QQ, seval, h1, h2, List.length_map] | (simp (disch := omega) only [IntWalk.i64_in]) | (refine go_brD (fun h => ?_) (fun h => ?_)) | (refine go_gsD (by ((try simp only [EE, QQ, seval]) <;> rfl)) (fun h => ?_) (fun h => ?_)) | (refine go_br (fun h => ?_) (fun h => ?_)) | (refine go_gs (by ((try simp only [EE, QQ, seval]) <;> rfl)) (fun h => ?_) (fun h => ?_)) | (apply go_call 5000 (r14check t hl hs) rfl rfl; (· ((try simp only [CC, EE, QQ, seval]) <;> (first | rfl | ((repeat constructor); done)))); (· exact CallForm.plain rfl); (· ((try simp only [CC, EE, QQ, seval]) <;> (first | rfl | ((repeat constructor); done)))); (· ((try simp only [CC, EE, QQ, seval]) <;> (first | rfl | ((repeat constructor); done))))) | (apply go_call 5000 (r15form c hc) rfl rfl; (· ((try simp only [CC, EE, QQ, seval]) <;> (first | rfl | ((repeat constructor); done)))); (· exact CallForm.plain rfl); (· ((try simp only [CC, EE, QQ, seval]) <;> (first | rfl | ((repeat constructor); done)))); (· ((try simp only [CC, EE, QQ, seval]) <;> (first | rfl | ((repeat constructor); done))))) | (with_reducible apply And.intro) | (with_reducible exact trivial) | omega | (simp only [List.length_map, List.length_cons, List.length_nil] at *; omega) | (show _ = true; first | rfl | kernel_rfl))
    · ((first | apply ret_mk [] | apply end_mk []); (· ((try simp only [CC, EE, QQ, seval]) <;> rfl)); (· ((try simp only [CC, EE, QQ, seval]) <;> repeat' (first | (with_reducible apply And.intro) | rfl | trivial | (exact ⟨_, rfl⟩) | (exact ⟨_, _, _, rfl⟩) | (simp [*, hv0]; done) | (simp [*, hv0]; omega) | (simp_all [hv0]; done) | (simp_all [hv0]; omega)))); all_goals (first | trivial | decide | ((try simp only [CC, EE, QQ, seval]) <;> repeat' (first | (with_reducible apply And.intro) | (exact ⟨_, rfl, rfl, rfl⟩) | (exact ⟨_, _, _, rfl⟩) | (exact ⟨_, rfl⟩) | trivial | rfl | (simp; done)))))
    have h3 : c.fr = t.num := by simpa using h
    rw [if_neg (by simpa using h3)] at hv0
    refine go_loop 5000 hm0 (ι := {k : Nat // k ≤ c.sets.length ∧ setsErr t.p t.width c.sets = setsErr t.p t.width (c.sets.drop k)}) (fun i => [(2, .bp 2 0 0), (3, .bp 3 0 0), (4, I 0), (25, .d (dSets c.sets)), (26, I c.sets.length), (27, I i.1)]) (fun i => [(2, .box 0 [I t.num, I t.p, I t.width, .d (dRows t.rows)]), (3, .box 0 [I c.fr, I c.tt, I c.count, .d (dSets c.sets)])]) (fun i => c.sets.length - i.1) [] ⟨0, by simp⟩ ?_ ?_
    · (simp only [GeS]; refine ⟨?_, ?_, ?_, ?_⟩; all_goals (repeat' (first | trivial | (with_reducible rfl) | simp only [CC, EE, QQ, seval] | (with_reducible apply And.intro) | rfl | (refine ⟨_, rfl, ?_⟩) | (simp; done) | omega)))
    · rintro ⟨k, hk, hv⟩
      by_cases hkl : k < c.sets.length
      · have hs' := getD_map eSet [] noSet c.sets k hkl
        have hr := hd _ (mem_getD noSet c.sets k hkl)
        rw [drop_get noSet _ _ hkl] at hv
        generalize c.sets.getD k noSet = r at hs' hv hr
        have hq := r3in t.p r.row hr
        repeat' (first | simp only [↓GE, PL, PP, EE, QQ, seval, hs', eSet, List.length_map, hf, Bool.true_and] | (simp (disch := omega) only [IntWalk.i64_in]) | (refine go_brD (fun h => ?_) (fun h => ?_)) | (refine go_gsD (by ((try simp only [EE, QQ, seval]) <;> rfl)) (fun h => ?_) (fun h => ?_)) | (refine go_br (fun h => ?_) (fun h => ?_)) | (refine go_gs (by ((try simp only [EE, QQ, seval]) <;> rfl)) (fun h => ?_) (fun h => ?_)) | (apply go_call 5000 (hq) rfl rfl; (· ((try simp only [CC, EE, QQ, seval]) <;> (first | rfl | ((repeat constructor); done)))); (· exact CallForm.plain rfl); (· ((try simp only [CC, EE, QQ, seval]) <;> (first | rfl | ((repeat constructor); done)))); (· ((try simp only [CC, EE, QQ, seval]) <;> (first | rfl | ((repeat constructor); done))))) | (with_reducible apply And.intro) | (with_reducible exact trivial) | omega | (simp only [List.length_map, List.length_cons, List.length_nil] at *; omega) | (show _ = true; first | rfl | kernel_rfl))
        · have h2 : (r.row.length : Int) ≠ t.width := by simpa using h
          have hv1 : checkC t c = 2 := by rw [hv0, hv, setsErr, if_pos h2]; rfl
          ((first | apply ret_mk [] | apply end_mk []); (· ((try simp only [CC, EE, QQ, seval]) <;> rfl)); (· ((try simp only [CC, EE, QQ, seval]) <;> repeat' (first | (with_reducible apply And.intro) | rfl | trivial | (exact ⟨_, rfl⟩) | (exact ⟨_, _, _, rfl⟩) | (simp [*, hv1]; done) | (simp [*, hv1]; omega) | (simp_all [hv1]; done) | (simp_all [hv1]; omega)))); all_goals (first | trivial | decide | ((try simp only [CC, EE, QQ, seval]) <;> repeat' (first | (with_reducible apply And.intro) | (exact ⟨_, rfl, rfl, rfl⟩) | (exact ⟨_, _, _, rfl⟩) | (exact ⟨_, rfl⟩) | trivial | rfl | (simp; done)))))
        · have h2 : (r.row.length : Int) = t.width := by simp at *; assumption
          have he : setsErr t.p t.width c.sets = 9 := by rw [hv, setsErr, if_neg (by simpa using h2), if_neg (by simpa using h)]
          have hv1 : checkC t c = 9 := by rw [hv0, he]; rfl
          ((first | apply ret_mk [] | apply end_mk []); (· ((try simp only [CC, EE, QQ, seval]) <;> rfl)); (· ((try simp only [CC, EE, QQ, seval]) <;> repeat' (first | (with_reducible apply And.intro) | rfl | trivial | (exact ⟨_, rfl⟩) | (exact ⟨_, _, _, rfl⟩) | (simp [*, hv1]; done) | (simp [*, hv1]; omega) | (simp_all [hv1]; done) | (simp_all [hv1]; omega)))); all_goals (first | trivial | decide | ((try simp only [CC, EE, QQ, seval]) <;> repeat' (first | (with_reducible apply And.intro) | (exact ⟨_, rfl, rfl, rfl⟩) | (exact ⟨_, _, _, rfl⟩) | (exact ⟨_, rfl⟩) | trivial | rfl | (simp; done)))))
        · have h2 : (r.row.length : Int) = t.width := by simp at *; assumption
          rw [setsErr, if_neg (by simpa using h2), if_pos (by simpa using h)] at hv
          refine ⟨⟨k + 1, hkl, hv⟩, ?_, by simp only; omega⟩
          (simp only [GeS]; refine ⟨?_, ?_, ?_, ?_⟩; all_goals (repeat' (first | trivial | (with_reducible rfl) | simp only [CC, EE, QQ, seval] | (with_reducible apply And.intro) | rfl | (refine ⟨_, rfl, ?_⟩) | (simp; done) | omega)))
      · have : k = c.sets.length := by omega
        subst this
        simp only [List.drop_length, setsErr] at hv
        rw [hv, if_neg (by simp)] at hv0
        have hba := behind_all (x := t.rows.length) hf6
        repeat' (first | simp only [↓GE, PL, PP, EE, QQ, seval, List.length_map] | (simp (disch := omega) only [IntWalk.i64_in]) | (refine go_brD (fun h => ?_) (fun h => ?_)) | (refine go_gsD (by ((try simp only [EE, QQ, seval]) <;> rfl)) (fun h => ?_) (fun h => ?_)) | (refine go_br (fun h => ?_) (fun h => ?_)) | (refine go_gs (by ((try simp only [EE, QQ, seval]) <;> rfl)) (fun h => ?_) (fun h => ?_)) | (with_reducible apply And.intro) | (with_reducible exact trivial) | omega | (simp only [List.length_map, List.length_cons, List.length_nil] at *; omega) | (show _ = true; first | rfl | kernel_rfl))
        refine go_loop 5000 hm0 (ι := {i : Int // t.rows.length ≤ i ∧ i ≤ max (t.rows.length : Int) c.count ∧ ∀ j : Int, t.rows.length ≤ j → j < i → (findF j c.sets).isSome = true}) (fun i => [(2, .bp 2 0 0), (3, .bp 3 0 0), (4, I 0), (8, I i.1)]) (fun i => [(2, .box 0 [I t.num, I t.p, I t.width, .d (dRows t.rows)]), (3, .box 0 [I c.fr, I c.tt, I c.count, .d (dSets c.sets)])]) (fun i => (max (t.rows.length : Int) c.count - i.1).toNat) [] ⟨t.rows.length, by omega, by omega, fun j h1 h2 => by omega⟩ ?_ ?_
        · (simp only [GeS]; refine ⟨?_, ?_, ?_, ?_⟩; all_goals (repeat' (first | trivial | (with_reducible rfl) | simp only [CC, EE, QQ, seval] | (with_reducible apply And.intro) | rfl | (refine ⟨_, rfl, ?_⟩) | (simp; done) | omega)))
        · rintro ⟨i, hi, hi2, hi3⟩
          repeat' (first | simp only [↓GE, PL, PP, EE, QQ, seval] | (simp (disch := omega) only [IntWalk.i64_in]) | (refine go_brD (fun h => ?_) (fun h => ?_)) | (refine go_gsD (by ((try simp only [EE, QQ, seval]) <;> rfl)) (fun h => ?_) (fun h => ?_)) | (refine go_br (fun h => ?_) (fun h => ?_)) | (refine go_gs (by ((try simp only [EE, QQ, seval]) <;> rfl)) (fun h => ?_) (fun h => ?_)) | (apply go_call 5000 (r15find c i hc) rfl rfl; (· ((try simp only [CC, EE, QQ, seval]) <;> (first | rfl | ((repeat constructor); done)))); (· exact CallForm.plain rfl); (· ((try simp only [CC, EE, QQ, seval]) <;> (first | rfl | ((repeat constructor); done)))); (· ((try simp only [CC, EE, QQ, seval]) <;> (first | rfl | ((repeat constructor); done))))) | (with_reducible apply And.intro) | (with_reducible exact trivial) | omega | (simp only [List.length_map, List.length_cons, List.length_nil] at *; omega) | (show _ = true; first | rfl | kernel_rfl))
          · have hv1 : checkC t c = 2 := by
              rw [hv0, if_pos]
              intro e
              have := hba.1 e i hi (by assumption)
              simp_all
            ((first | apply ret_mk [] | apply end_mk []); (· ((try simp only [CC, EE, QQ, seval]) <;> rfl)); (· ((try simp only [CC, EE, QQ, seval]) <;> repeat' (first | (with_reducible apply And.intro) | rfl | trivial | (exact ⟨_, rfl⟩) | (exact ⟨_, _, _, rfl⟩) | (simp [*, hv1]; done) | (simp [*, hv1]; omega) | (simp_all [hv1]; done) | (simp_all [hv1]; omega)))); all_goals (first | trivial | decide | ((try simp only [CC, EE, QQ, seval]) <;> repeat' (first | (with_reducible apply And.intro) | (exact ⟨_, rfl, rfl, rfl⟩) | (exact ⟨_, _, _, rfl⟩) | (exact ⟨_, rfl⟩) | trivial | rfl | (simp; done)))))
          · refine ⟨⟨i + 1, by omega, by omega, fun j h1 h2 => ?_⟩, ?_, by simp only; omega⟩
            · by_cases e : j = i
              · subst e; simpa using h
              · exact hi3 j h1 (by omega)
            (simp only [GeS]; refine ⟨?_, ?_, ?_, ?_⟩; all_goals (repeat' (first | trivial | (with_reducible rfl) | simp only [CC, EE, QQ, seval] | (with_reducible apply And.intro) | rfl | (refine ⟨_, rfl, ?_⟩) | (simp; done) | omega)))
          · have hv1 : checkC t c = 0 := by
              rw [hv0, if_neg]
              exact fun e => e (hba.2 fun j h1 h2 => hi3 j h1 (by omega))
            ((first | apply ret_mk [] | apply end_mk []); (· ((try simp only [CC, EE, QQ, seval]) <;> rfl)); (· ((try simp only [CC, EE, QQ, seval]) <;> repeat' (first | (with_reducible apply And.intro) | rfl | trivial | (exact ⟨_, rfl⟩) | (exact ⟨_, _, _, rfl⟩) | (simp [*, hv1]; done) | (simp [*, hv1]; omega) | (simp_all [hv1]; done) | (simp_all [hv1]; omega)))); all_goals (first | trivial | decide | ((try simp only [CC, EE, QQ, seval]) <;> repeat' (first | (with_reducible apply And.intro) | (exact ⟨_, rfl, rfl, rfl⟩) | (exact ⟨_, _, _, rfl⟩) | (exact ⟨_, rfl⟩) | trivial | rfl | (simp; done)))))
end Go.Proofs.Ytpliidhbfjjofaa.Sim
