/- Changes: what they are checked by. -/
import Derived.Test.YtpliidhbfjjofaaChgD
namespace Go.Proofs.Ytpliidhbfjjofaa.Sim
open Go
set_option maxRecDepth 100000
set_option maxHeartbeats 4000000
set_option linter.unusedVariables false
set_option linter.unusedSimpArgs false
attribute [local irreducible] Go Mean
/-- What is wrong with the rows of sets, or 0. -/
def setsErr (p w : Int) : List PSet → Int
  | [] => 0
  | s :: l => if (s.row.length : Int) ≠ w then 2 else if s.row.all (inE p) = true then setsErr p w l else 9
noncomputable def checkC (t : PTab) (c : PChg) : Int := if checkT t ≠ 0 then checkT t else if formF c = false then 2 else if c.fr ≠ t.num then 17 else
  if setsErr t.p t.width c.sets ≠ 0 then setsErr t.p t.width c.sets else if (behindF t.rows.length c.sets : Int) ≠ max 0 (c.count - t.rows.length) then 2 else 0
theorem rowsErr_in (p w : Int) : ∀ l, rowsErr p w l = 0 ∨ rowsErr p w l = 2 ∨ rowsErr p w l = 9
  | [] => .inl rfl
  | r :: l => by simp only [rowsErr]; split; · exact .inr (.inl rfl)
                 split
                 · exact rowsErr_in p w l
                 · exact .inr (.inr rfl)
theorem checkT_ok {t : PTab} (h : checkT t = 0) : fieldB t.p = true ∧ t.rows.length ≤ 1024 ∧ 1 ≤ t.num ∧ t.num < 2147483647 ∧ 1 ≤ t.width ∧ t.width ≤ 64 ∧ rowsErr t.p t.width t.rows = 0 := by
  unfold checkT at h
  split at h
  · cases h
  split at h
  · cases h
  split at h
  · cases h
  split at h
  · cases h
  rename_i h1 h2 h3 h4
  exact ⟨by simpa using h2, by omega, by omega, by omega, by omega, by omega, h⟩
theorem formF_ok {c : PChg} (h : formF c = true) : 1 ≤ c.fr ∧ c.fr < c.tt ∧ c.tt < 2147483647 ∧ 0 ≤ c.count ∧ c.count ≤ 1024 ∧ formGo c.count (-1) c.sets = true := by
  simp only [formF, numF, Bool.and_eq_true, decide_eq_true_eq] at h
  obtain ⟨⟨⟨⟨⟨⟨h1, h2⟩, h3, h4⟩, h5⟩, h6⟩, h7⟩, h8⟩ := h
  exact ⟨h1, h5, h4, h6, h7, h8⟩
theorem behindF_le (x : Int) (l : List PSet) : behindF x l ≤ l.length := List.countP_le_length
theorem ccheck (t : PTab) (c : PChg) (hl : t.rows.length ≤ 17592186044416) (hs : Short t.rows) (hc : c.sets.length ≤ 17592186044416) (hd : ShortS c.sets) : Does Try.prog 16 [vTab t, vChg c] [] (I (checkC t c)) [] [] := by
  refine go_change_Check rfl BxOK.nil fun cx hm0 => go_in 5000 ?_
  unfold ac_change_Check rs_change_Check
  by_cases h1 : checkT t = 0
  case neg =>
    have hv : checkC t c = checkT t := by simp [checkC, h1]
    have h1' : (checkT t != 0) = true := by simpa using h1
    repeat' (first | simp only [↓GE, PL, PP, EE, QQ, seval, h1'] | (simp (disch := omega) only [IntWalk.i64_in]) | (refine go_brD (fun h => ?_) (fun h => ?_)) | (refine go_gsD (by ((try simp only [EE, QQ, seval]) <;> rfl)) (fun h => ?_) (fun h => ?_)) | (refine go_br (fun h => ?_) (fun h => ?_)) | (refine go_gs (by ((try simp only [EE, QQ, seval]) <;> rfl)) (fun h => ?_) (fun h => ?_)) | (apply go_call 5000 (tcheck t hl hs) rfl rfl; (· ((try simp only [CC, EE, QQ, seval]) <;> (first | rfl | ((repeat constructor); done)))); (· exact CallForm.plain rfl); (· ((try simp only [CC, EE, QQ, seval]) <;> (first | rfl | ((repeat constructor); done)))); (· ((try simp only [CC, EE, QQ, seval]) <;> (first | rfl | ((repeat constructor); done))))) | (with_reducible apply And.intro) | (with_reducible exact trivial) | omega | (simp only [List.length_map, List.length_cons, List.length_nil] at *; omega) | (show _ = true; first | rfl | kernel_rfl))
    all_goals ((first | apply ret_mk [] | apply end_mk []); (· ((try simp only [CC, EE, QQ, seval]) <;> rfl)); (· ((try simp only [CC, EE, QQ, seval]) <;> repeat' (first | (with_reducible apply And.intro) | rfl | trivial | (exact ⟨_, rfl⟩) | (exact ⟨_, _, _, rfl⟩) | (simp [*, hv]; done) | (simp [*, hv]; omega) | (simp_all [hv]; done) | (simp_all [hv]; omega)))); all_goals (first | trivial | decide | ((try simp only [CC, EE, QQ, seval]) <;> repeat' (first | (with_reducible apply And.intro) | (exact ⟨_, rfl, rfl, rfl⟩) | (exact ⟨_, _, _, rfl⟩) | (exact ⟨_, rfl⟩) | trivial | rfl | (simp; done)))))
  obtain ⟨hf, hr, hn1, hn2, hw1, hw2, hre⟩ := checkT_ok h1
  cases h2 : formF c with
  | false =>
    have hv : checkC t c = 2 := by simp [checkC, h1, h2]
    repeat' (first | simp only [↓GE, PL, PP, EE, QQ, seval, h1, h2] | (simp (disch := omega) only [IntWalk.i64_in]) | (refine go_brD (fun h => ?_) (fun h => ?_)) | (refine go_gsD (by ((try simp only [EE, QQ, seval]) <;> rfl)) (fun h => ?_) (fun h => ?_)) | (refine go_br (fun h => ?_) (fun h => ?_)) | (refine go_gs (by ((try simp only [EE, QQ, seval]) <;> rfl)) (fun h => ?_) (fun h => ?_)) | (apply go_call 5000 (tcheck t hl hs) rfl rfl; (· ((try simp only [CC, EE, QQ, seval]) <;> (first | rfl | ((repeat constructor); done)))); (· exact CallForm.plain rfl); (· ((try simp only [CC, EE, QQ, seval]) <;> (first | rfl | ((repeat constructor); done)))); (· ((try simp only [CC, EE, QQ, seval]) <;> (first | rfl | ((repeat constructor); done))))) | (apply go_call 5000 (formed c hc) rfl rfl; (· ((try simp only [CC, EE, QQ, seval]) <;> (first | rfl | ((repeat constructor); done)))); (· exact CallForm.plain rfl); (· ((try simp only [CC, EE, QQ, seval]) <;> (first | rfl | ((repeat constructor); done)))); (· ((try simp only [CC, EE, QQ, seval]) <;> (first | rfl | ((repeat constructor); done))))) | (with_reducible apply And.intro) | (with_reducible exact trivial) | omega | (simp only [List.length_map, List.length_cons, List.length_nil] at *; omega) | (show _ = true; first | rfl | kernel_rfl))
    all_goals ((first | apply ret_mk [] | apply end_mk []); (· ((try simp only [CC, EE, QQ, seval]) <;> rfl)); (· ((try simp only [CC, EE, QQ, seval]) <;> repeat' (first | (with_reducible apply And.intro) | rfl | trivial | (exact ⟨_, rfl⟩) | (exact ⟨_, _, _, rfl⟩) | (simp [*, hv]; done) | (simp [*, hv]; omega) | (simp_all [hv]; done) | (simp_all [hv]; omega)))); all_goals (first | trivial | decide | ((try simp only [CC, EE, QQ, seval]) <;> repeat' (first | (with_reducible apply And.intro) | (exact ⟨_, rfl, rfl, rfl⟩) | (exact ⟨_, _, _, rfl⟩) | (exact ⟨_, rfl⟩) | trivial | rfl | (simp; done)))))
  | true =>
    obtain ⟨hf1, hf2, hf3, hf4, hf5, hf6⟩ := formF_ok h2
    have hv0 : checkC t c = if c.fr ≠ t.num then 17 else if setsErr t.p t.width c.sets ≠ 0 then setsErr t.p t.width c.sets else if (behindF t.rows.length c.sets : Int) ≠ max 0 (c.count - t.rows.length) then 2 else 0 := by
      rw [checkC, if_neg (by simp [h1]), if_neg (by simp [h2])]
    repeat' (first | simp only [↓GE, PL, PP, EE, QQ, seval, h1, h2, List.length_map] | (simp (disch := omega) only [IntWalk.i64_in]) | (refine go_brD (fun h => ?_) (fun h => ?_)) | (refine go_gsD (by ((try simp only [EE, QQ, seval]) <;> rfl)) (fun h => ?_) (fun h => ?_)) | (refine go_br (fun h => ?_) (fun h => ?_)) | (refine go_gs (by ((try simp only [EE, QQ, seval]) <;> rfl)) (fun h => ?_) (fun h => ?_)) | (apply go_call 5000 (tcheck t hl hs) rfl rfl; (· ((try simp only [CC, EE, QQ, seval]) <;> (first | rfl | ((repeat constructor); done)))); (· exact CallForm.plain rfl); (· ((try simp only [CC, EE, QQ, seval]) <;> (first | rfl | ((repeat constructor); done)))); (· ((try simp only [CC, EE, QQ, seval]) <;> (first | rfl | ((repeat constructor); done))))) | (apply go_call 5000 (formed c hc) rfl rfl; (· ((try simp only [CC, EE, QQ, seval]) <;> (first | rfl | ((repeat constructor); done)))); (· exact CallForm.plain rfl); (· ((try simp only [CC, EE, QQ, seval]) <;> (first | rfl | ((repeat constructor); done)))); (· ((try simp only [CC, EE, QQ, seval]) <;> (first | rfl | ((repeat constructor); done))))) | (with_reducible apply And.intro) | (with_reducible exact trivial) | omega | (simp only [List.length_map, List.length_cons, List.length_nil] at *; omega) | (show _ = true; first | rfl | kernel_rfl))
    · ((first | apply ret_mk [] | apply end_mk []); (· ((try simp only [CC, EE, QQ, seval]) <;> rfl)); (· ((try simp only [CC, EE, QQ, seval]) <;> repeat' (first | (with_reducible apply And.intro) | rfl | trivial | (exact ⟨_, rfl⟩) | (exact ⟨_, _, _, rfl⟩) | (simp [*, hv0]; done) | (simp [*, hv0]; omega) | (simp_all [hv0]; done) | (simp_all [hv0]; omega)))); all_goals (first | trivial | decide | ((try simp only [CC, EE, QQ, seval]) <;> repeat' (first | (with_reducible apply And.intro) | (exact ⟨_, rfl, rfl, rfl⟩) | (exact ⟨_, _, _, rfl⟩) | (exact ⟨_, rfl⟩) | trivial | rfl | (simp; done)))))
    have h3 : c.fr = t.num := by simpa using h
    rw [if_neg (by simpa using h3)] at hv0
    refine go_loop 5000 hm0 (ι := {k : Nat // k ≤ c.sets.length ∧ setsErr t.p t.width c.sets = setsErr t.p t.width (c.sets.drop k)}) (fun i => [(2, .bp 2 0 0), (3, .bp 3 0 0), (4, I 0), (22, .d (dSets c.sets)), (23, I c.sets.length), (24, I i.1)]) (fun i => [(2, .box 0 [I t.num, I t.p, I t.width, .d (dRows t.rows)]), (3, .box 0 [I c.fr, I c.tt, I c.count, .d (dSets c.sets)])]) (fun i => c.sets.length - i.1) [] ⟨0, by simp⟩ ?_ ?_
    · (simp only [GeS]; refine ⟨?_, ?_, ?_, ?_⟩; all_goals (repeat' (first | trivial | (with_reducible rfl) | simp only [CC, EE, QQ, seval] | (with_reducible apply And.intro) | rfl | (refine ⟨_, rfl, ?_⟩) | (simp; done) | omega)))
    · rintro ⟨k, hk, hv⟩
      by_cases hkl : k < c.sets.length
      · have hs' := getD_map eSet [] noSet c.sets k hkl
        have hr := hd _ (mem_getD noSet c.sets k hkl)
        rw [drop_get noSet _ _ hkl] at hv
        generalize c.sets.getD k noSet = r at hs' hv hr
        have hq := allF t.p r.row hr
        repeat' (first | simp only [↓GE, PL, PP, EE, QQ, seval, hs', eSet, List.length_map] | (simp (disch := omega) only [IntWalk.i64_in]) | (refine go_brD (fun h => ?_) (fun h => ?_)) | (refine go_gsD (by ((try simp only [EE, QQ, seval]) <;> rfl)) (fun h => ?_) (fun h => ?_)) | (refine go_br (fun h => ?_) (fun h => ?_)) | (refine go_gs (by ((try simp only [EE, QQ, seval]) <;> rfl)) (fun h => ?_) (fun h => ?_)) | (apply go_call 5000 (hq) rfl rfl; (· ((try simp only [CC, EE, QQ, seval]) <;> (first | rfl | ((repeat constructor); done)))); (· exact CallForm.plain rfl); (· ((try simp only [CC, EE, QQ, seval]) <;> (first | rfl | ((repeat constructor); done)))); (· ((try simp only [CC, EE, QQ, seval]) <;> (first | rfl | ((repeat constructor); done))))) | (with_reducible apply And.intro) | (with_reducible exact trivial) | omega | (simp only [List.length_map, List.length_cons, List.length_nil] at *; omega) | (show _ = true; first | rfl | kernel_rfl))
        · have h2 : (r.row.length : Int) ≠ t.width := by simpa using h
          have hv1 : checkC t c = 2 := by rw [hv0, hv, setsErr, if_pos h2]; rfl
          ((first | apply ret_mk [] | apply end_mk []); (· ((try simp only [CC, EE, QQ, seval]) <;> rfl)); (· ((try simp only [CC, EE, QQ, seval]) <;> repeat' (first | (with_reducible apply And.intro) | rfl | trivial | (exact ⟨_, rfl⟩) | (exact ⟨_, _, _, rfl⟩) | (simp [*, hv1]; done) | (simp [*, hv1]; omega) | (simp_all [hv1]; done) | (simp_all [hv1]; omega)))); all_goals (first | trivial | decide | ((try simp only [CC, EE, QQ, seval]) <;> repeat' (first | (with_reducible apply And.intro) | (exact ⟨_, rfl, rfl, rfl⟩) | (exact ⟨_, _, _, rfl⟩) | (exact ⟨_, rfl⟩) | trivial | rfl | (simp; done)))))
        · have h2 : (r.row.length : Int) = t.width := by simp at *; assumption
          have he : setsErr t.p t.width c.sets = 9 := by rw [hv, setsErr, if_neg (by simpa using h2), if_neg (by simpa using h)]
          have hv1 : checkC t c = 9 := by rw [hv0, he]; rfl
          ((first | apply ret_mk [] | apply end_mk []); (· ((try simp only [CC, EE, QQ, seval]) <;> rfl)); (· ((try simp only [CC, EE, QQ, seval]) <;> repeat' (first | (with_reducible apply And.intro) | rfl | trivial | (exact ⟨_, rfl⟩) | (exact ⟨_, _, _, rfl⟩) | (simp [*, hv1]; done) | (simp [*, hv1]; omega) | (simp_all [hv1]; done) | (simp_all [hv1]; omega)))); all_goals (first | trivial | decide | ((try simp only [CC, EE, QQ, seval]) <;> repeat' (first | (with_reducible apply And.intro) | (exact ⟨_, rfl, rfl, rfl⟩) | (exact ⟨_, _, _, rfl⟩) | (exact ⟨_, rfl⟩) | trivial | rfl | (simp; done)))))
        · have h2 : (r.row.length : Int) = t.width := by simp at *; assumption
          rw [setsErr, if_neg (by simpa using h2), if_pos (by simpa using h)] at hv
          refine ⟨⟨k + 1, hkl, hv⟩, ?_, by simp only; omega⟩
          (simp only [GeS]; refine ⟨?_, ?_, ?_, ?_⟩; all_goals (repeat' (first | trivial | (with_reducible rfl) | simp only [CC, EE, QQ, seval] | (with_reducible apply And.intro) | rfl | (refine ⟨_, rfl, ?_⟩) | (simp; done) | omega)))
      · have : k = c.sets.length := by omega
        subst this
        simp only [List.drop_length, setsErr] at hv
        rw [hv, if_neg (by simp)] at hv0
        have hbl := behindF_le t.rows.length c.sets
        repeat' (first | simp only [↓GE, PL, PP, EE, QQ, seval, List.length_map] | (simp (disch := omega) only [IntWalk.i64_in]) | (refine go_brD (fun h => ?_) (fun h => ?_)) | (refine go_gsD (by ((try simp only [EE, QQ, seval]) <;> rfl)) (fun h => ?_) (fun h => ?_)) | (refine go_br (fun h => ?_) (fun h => ?_)) | (refine go_gs (by ((try simp only [EE, QQ, seval]) <;> rfl)) (fun h => ?_) (fun h => ?_)) | (apply go_call 5000 (behind c _ hc) rfl rfl; (· ((try simp only [CC, EE, QQ, seval]) <;> (first | rfl | ((repeat constructor); done)))); (· exact CallForm.plain rfl); (· ((try simp only [CC, EE, QQ, seval]) <;> (first | rfl | ((repeat constructor); done)))); (· ((try simp only [CC, EE, QQ, seval]) <;> (first | rfl | ((repeat constructor); done))))) | (with_reducible apply And.intro) | (with_reducible exact trivial) | omega | (simp only [List.length_map, List.length_cons, List.length_nil] at *; omega) | (show _ = true; first | rfl | kernel_rfl))
        all_goals ((first | apply ret_mk [] | apply end_mk []); (· ((try simp only [CC, EE, QQ, seval]) <;> rfl)); (· ((try simp only [CC, EE, QQ, seval]) <;> repeat' (first | (with_reducible apply And.intro) | rfl | trivial | (exact ⟨_, rfl⟩) | (exact ⟨_, _, _, rfl⟩) | (simp [*, hv0]; done) | (simp [*, hv0]; omega) | (simp_all [hv0]; done) | (simp_all [hv0]; omega)))); all_goals (first | trivial | decide | ((try simp only [CC, EE, QQ, seval]) <;> repeat' (first | (with_reducible apply And.intro) | (exact ⟨_, rfl, rfl, rfl⟩) | (exact ⟨_, _, _, rfl⟩) | (exact ⟨_, rfl⟩) | trivial | rfl | (simp; done)))))
theorem formGo_step {count last : Int} {s : PSet} {r : List PSet} (h1 : ¬s.idx ≤ last) (h2 : ¬s.idx ≥ count) : formGo count last (s :: r) = formGo count s.idx r := by rw [formGo, if_neg (by omega)]
theorem formGo_no {count last : Int} {s : PSet} {r : List PSet} (h : s.idx ≤ last ∨ s.idx ≥ count) : formGo count last (s :: r) = false := by rw [formGo, if_pos h]
theorem r15form (c : PChg) (hc : c.sets.length ≤ 17592186044416) : Does Try.prog 55 [vChg c] [] (B (formF c)) [] [] := by
  refine go_ref15_form rfl BxOK.nil fun cx hm0 => go_in 5000 ?_
  unfold ac_ref15_form rs_ref15_form
  repeat' (first | simp only [↓GE, PL, PP, EE, QQ, seval] | (simp (disch := omega) only [IntWalk.i64_in]) | (refine go_brD (fun h => ?_) (fun h => ?_)) | (refine go_gsD (by ((try simp only [EE, QQ, seval]) <;> rfl)) (fun h => ?_) (fun h => ?_)) | (refine go_br (fun h => ?_) (fun h => ?_)) | (refine go_gs (by ((try simp only [EE, QQ, seval]) <;> rfl)) (fun h => ?_) (fun h => ?_)) | (with_reducible apply And.intro) | (with_reducible exact trivial) | omega | (simp only [List.length_map, List.length_cons, List.length_nil] at *; omega) | (show _ = true; first | rfl | kernel_rfl))
  any_goals ((first | apply ret_mk [] | apply end_mk []); (· ((try simp only [CC, EE, QQ, seval]) <;> rfl)); (· ((try simp only [CC, EE, QQ, seval]) <;> repeat' (first | (with_reducible apply And.intro) | rfl | trivial | (exact ⟨_, rfl⟩) | (exact ⟨_, _, _, rfl⟩) | (simp [*, formF, numF]; done) | (simp [*, formF, numF]; omega) | (simp_all [formF, numF]; done) | (simp_all [formF, numF]; omega)))); all_goals (first | trivial | decide | ((try simp only [CC, EE, QQ, seval]) <;> repeat' (first | (with_reducible apply And.intro) | (exact ⟨_, rfl, rfl, rfl⟩) | (exact ⟨_, _, _, rfl⟩) | (exact ⟨_, rfl⟩) | trivial | rfl | (simp; done)))))
  have hv0 : formF c = formGo c.count (-1) c.sets := by
    have e1 : numF c.fr = true := by simp only [numF, Bool.and_eq_true, decide_eq_true_eq]; omega
    have e2 : numF c.tt = true := by simp only [numF, Bool.and_eq_true, decide_eq_true_eq]; omega
    simp only [formF, e1, e2, Bool.true_and]
    rw [decide_eq_true (by omega), decide_eq_true (by omega), decide_eq_true (by omega)]; rfl
  refine go_loop 5000 hm0 (ι := {p : Nat × Int // p.1 ≤ c.sets.length ∧ formGo c.count (-1) c.sets = formGo c.count p.2 (c.sets.drop p.1) ∧ ((p.1 = 0 ∧ p.2 = -1) ∨ (0 < p.1 ∧ 0 ≤ p.2 ∧ p.2 = (c.sets.getD (p.1 - 1) noSet).idx))}) (fun i => [(1, .bp 1 0 0), (2, B false), (31, .d (dSets c.sets)), (32, I c.sets.length), (33, I i.1.1)]) (fun i => [(1, .box 0 [I c.fr, I c.tt, I c.count, .d (dSets c.sets)])]) (fun i => c.sets.length - i.1.1) [] ⟨(0, -1), by simp⟩ ?_ ?_
  · (simp only [GeS]; refine ⟨?_, ?_, ?_, ?_⟩; all_goals (repeat' (first | trivial | (with_reducible rfl) | simp only [CC, EE, QQ, seval] | (with_reducible apply And.intro) | rfl | (refine ⟨_, rfl, ?_⟩) | (simp; done) | omega)))
  · rintro ⟨⟨k, last⟩, hk, hv, hw⟩
    by_cases hkl : k < c.sets.length
    · have hs' := getD_map eSet [] noSet c.sets k hkl
      rw [drop_get noSet _ _ hkl] at hv
      have hu : c.sets.getD (k + 1 - 1) noSet = c.sets.getD k noSet := rfl
      generalize c.sets.getD k noSet = s at hs' hv hu
      rcases hw with ⟨hw1, hw2⟩ | ⟨hw1, hw2, hw3⟩
      · simp only at hw1 hw2
        subst hw1 hw2
        repeat' (first | simp only [↓GE, PL, PP, EE, QQ, seval, hs', eSet] | (simp (disch := omega) only [IntWalk.i64_in]) | (refine go_brD (fun h => ?_) (fun h => ?_)) | (refine go_gsD (by ((try simp only [EE, QQ, seval]) <;> rfl)) (fun h => ?_) (fun h => ?_)) | (refine go_br (fun h => ?_) (fun h => ?_)) | (refine go_gs (by ((try simp only [EE, QQ, seval]) <;> rfl)) (fun h => ?_) (fun h => ?_)) | (with_reducible apply And.intro) | (with_reducible exact trivial) | omega | (simp only [List.length_map, List.length_cons, List.length_nil] at *; omega) | (show _ = true; first | rfl | kernel_rfl))
        · have hv1 : formF c = false := by rw [hv0, hv]; exact formGo_no (by simp only; omega)
          ((first | apply ret_mk [] | apply end_mk []); (· ((try simp only [CC, EE, QQ, seval]) <;> rfl)); (· ((try simp only [CC, EE, QQ, seval]) <;> repeat' (first | (with_reducible apply And.intro) | rfl | trivial | (exact ⟨_, rfl⟩) | (exact ⟨_, _, _, rfl⟩) | (simp [*, hv1]; done) | (simp [*, hv1]; omega) | (simp_all [hv1]; done) | (simp_all [hv1]; omega)))); all_goals (first | trivial | decide | ((try simp only [CC, EE, QQ, seval]) <;> repeat' (first | (with_reducible apply And.intro) | (exact ⟨_, rfl, rfl, rfl⟩) | (exact ⟨_, _, _, rfl⟩) | (exact ⟨_, rfl⟩) | trivial | rfl | (simp; done)))))
        · have hv1 : formF c = false := by rw [hv0, hv]; exact formGo_no (by simp only; omega)
          ((first | apply ret_mk [] | apply end_mk []); (· ((try simp only [CC, EE, QQ, seval]) <;> rfl)); (· ((try simp only [CC, EE, QQ, seval]) <;> repeat' (first | (with_reducible apply And.intro) | rfl | trivial | (exact ⟨_, rfl⟩) | (exact ⟨_, _, _, rfl⟩) | (simp [*, hv1]; done) | (simp [*, hv1]; omega) | (simp_all [hv1]; done) | (simp_all [hv1]; omega)))); all_goals (first | trivial | decide | ((try simp only [CC, EE, QQ, seval]) <;> repeat' (first | (with_reducible apply And.intro) | (exact ⟨_, rfl, rfl, rfl⟩) | (exact ⟨_, _, _, rfl⟩) | (exact ⟨_, rfl⟩) | trivial | rfl | (simp; done)))))
        simp only at hv
        rw [formGo_step (by omega) (by omega)] at hv
        refine ⟨⟨(0 + 1, s.idx), hkl, hv, .inr ⟨by simp, by simp only; omega, by simp only [hu]⟩⟩, ?_, by simp only; omega⟩
        (simp only [GeS]; refine ⟨?_, ?_, ?_, ?_⟩; all_goals (repeat' (first | trivial | (with_reducible rfl) | simp only [CC, EE, QQ, seval] | (with_reducible apply And.intro) | rfl | (refine ⟨_, rfl, ?_⟩) | (simp; done) | omega)))
      · have hs2 := getD_map eSet [] noSet c.sets (k - 1) (by simp only at hk; omega)
        have hix : ((k : Int) - 1).toNat = k - 1 := by omega
        simp only at hw1 hw2 hw3
        obtain ⟨s2, hs3⟩ : ∃ s2, s2 = c.sets.getD (k - 1) noSet := ⟨_, rfl⟩
        rw [← hs3] at hs2 hw3
        subst hw3
        repeat' (first | simp only [↓GE, PL, PP, EE, QQ, seval, hs', hs2, hix, eSet] | (simp (disch := omega) only [IntWalk.i64_in]) | (refine go_brD (fun h => ?_) (fun h => ?_)) | (refine go_gsD (by ((try simp only [EE, QQ, seval]) <;> rfl)) (fun h => ?_) (fun h => ?_)) | (refine go_br (fun h => ?_) (fun h => ?_)) | (refine go_gs (by ((try simp only [EE, QQ, seval]) <;> rfl)) (fun h => ?_) (fun h => ?_)) | (with_reducible apply And.intro) | (with_reducible exact trivial) | omega | (simp only [List.length_map, List.length_cons, List.length_nil] at *; omega) | (show _ = true; first | rfl | kernel_rfl))
        · have hv1 : formF c = false := by rw [hv0, hv]; exact formGo_no (by simp only; omega)
          ((first | apply ret_mk [] | apply end_mk []); (· ((try simp only [CC, EE, QQ, seval]) <;> rfl)); (· ((try simp only [CC, EE, QQ, seval]) <;> repeat' (first | (with_reducible apply And.intro) | rfl | trivial | (exact ⟨_, rfl⟩) | (exact ⟨_, _, _, rfl⟩) | (simp [*, hv1]; done) | (simp [*, hv1]; omega) | (simp_all [hv1]; done) | (simp_all [hv1]; omega)))); all_goals (first | trivial | decide | ((try simp only [CC, EE, QQ, seval]) <;> repeat' (first | (with_reducible apply And.intro) | (exact ⟨_, rfl, rfl, rfl⟩) | (exact ⟨_, _, _, rfl⟩) | (exact ⟨_, rfl⟩) | trivial | rfl | (simp; done)))))
        · have hv1 : formF c = false := by rw [hv0, hv]; exact formGo_no (by simp only; omega)
          ((first | apply ret_mk [] | apply end_mk []); (· ((try simp only [CC, EE, QQ, seval]) <;> rfl)); (· ((try simp only [CC, EE, QQ, seval]) <;> repeat' (first | (with_reducible apply And.intro) | rfl | trivial | (exact ⟨_, rfl⟩) | (exact ⟨_, _, _, rfl⟩) | (simp [*, hv1]; done) | (simp [*, hv1]; omega) | (simp_all [hv1]; done) | (simp_all [hv1]; omega)))); all_goals (first | trivial | decide | ((try simp only [CC, EE, QQ, seval]) <;> repeat' (first | (with_reducible apply And.intro) | (exact ⟨_, rfl, rfl, rfl⟩) | (exact ⟨_, _, _, rfl⟩) | (exact ⟨_, rfl⟩) | trivial | rfl | (simp; done)))))
        · have hv1 : formF c = false := by rw [hv0, hv]; exact formGo_no (by simp only; omega)
          ((first | apply ret_mk [] | apply end_mk []); (· ((try simp only [CC, EE, QQ, seval]) <;> rfl)); (· ((try simp only [CC, EE, QQ, seval]) <;> repeat' (first | (with_reducible apply And.intro) | rfl | trivial | (exact ⟨_, rfl⟩) | (exact ⟨_, _, _, rfl⟩) | (simp [*, hv1]; done) | (simp [*, hv1]; omega) | (simp_all [hv1]; done) | (simp_all [hv1]; omega)))); all_goals (first | trivial | decide | ((try simp only [CC, EE, QQ, seval]) <;> repeat' (first | (with_reducible apply And.intro) | (exact ⟨_, rfl, rfl, rfl⟩) | (exact ⟨_, _, _, rfl⟩) | (exact ⟨_, rfl⟩) | trivial | rfl | (simp; done)))))
        simp only at hv
        rw [formGo_step (by omega) (by omega)] at hv
        refine ⟨⟨(k + 1, s.idx), hkl, hv, .inr ⟨by simp, by simp only; omega, by simp only [hu]⟩⟩, ?_, by simp only; omega⟩
        (simp only [GeS]; refine ⟨?_, ?_, ?_, ?_⟩; all_goals (repeat' (first | trivial | (with_reducible rfl) | simp only [CC, EE, QQ, seval] | (with_reducible apply And.intro) | rfl | (refine ⟨_, rfl, ?_⟩) | (simp; done) | omega)))
    · have : k = c.sets.length := by simp only at hk; omega
      subst this
      simp only [List.drop_length, formGo] at hv
      rw [hv] at hv0
      repeat' (first | simp only [↓GE, PL, PP, EE, QQ, seval] | (simp (disch := omega) only [IntWalk.i64_in]) | (refine go_brD (fun h => ?_) (fun h => ?_)) | (refine go_gsD (by ((try simp only [EE, QQ, seval]) <;> rfl)) (fun h => ?_) (fun h => ?_)) | (refine go_br (fun h => ?_) (fun h => ?_)) | (refine go_gs (by ((try simp only [EE, QQ, seval]) <;> rfl)) (fun h => ?_) (fun h => ?_)) | (with_reducible apply And.intro) | (with_reducible exact trivial) | omega | (simp only [List.length_map, List.length_cons, List.length_nil] at *; omega) | (show _ = true; first | rfl | kernel_rfl))
      all_goals ((first | apply ret_mk [] | apply end_mk []); (· ((try simp only [CC, EE, QQ, seval]) <;> rfl)); (· ((try simp only [CC, EE, QQ, seval]) <;> repeat' (first | (with_reducible apply And.intro) | rfl | trivial | (exact ⟨_, rfl⟩) | (exact ⟨_, _, _, rfl⟩) | (simp [*, hv0]; done) | (simp [*, hv0]; omega) | (simp_all [hv0]; done) | (simp_all [hv0]; omega)))); all_goals (first | trivial | decide | ((try simp only [CC, EE, QQ, seval]) <;> repeat' (first | (with_reducible apply And.intro) | (exact ⟨_, rfl, rfl, rfl⟩) | (exact ⟨_, _, _, rfl⟩) | (exact ⟨_, rfl⟩) | trivial | rfl | (simp; done)))))
end Go.Proofs.Ytpliidhbfjjofaa.Sim
