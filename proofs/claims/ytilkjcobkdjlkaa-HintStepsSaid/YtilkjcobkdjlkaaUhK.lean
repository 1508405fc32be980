/- Hints that follow changes. -/
import Derived.Test.YtilkjcobkdjlkaaUhJ
import Derived.Test.YtilkjcobkdjlkaaUhS
namespace Go.Proofs.Ytilkjcobkdjlkaa.Sim
open Go
set_option maxRecDepth 100000
set_option maxHeartbeats 4000000
set_option linter.unusedVariables false
set_option linter.unusedSimpArgs false
attribute [local irreducible] Go Mean
theorem applyF_fine {t : PTab} {c : PChg} (h : checkC t c = 0) : checkT (applyF t c).1 = 0 := by
  obtain ⟨h1, h2, h3, h4, h5⟩ := checkC_ok h
  obtain ⟨a1, a2, a3, a4, a5, a6, a7⟩ := checkT_ok h1
  obtain ⟨f1, f2, f3, f4, f5, f6⟩ := formF_ok h2
  rw [applyF, if_neg (by simp [h])]
  simp only [checkT]
  rw [if_neg (by omega), if_neg (by simp [a1]), if_neg (by omega), if_neg (by rw [applyRows_len]; omega)]
  refine (rowsErr_ok (by omega)).2 fun r hr => ?_
  obtain ⟨i, hi, rfl⟩ := List.mem_map.1 hr
  rw [List.mem_range] at hi
  have hrows := (rowsErr_ok (p := t.p) (by omega : 0 ≤ t.width)).1 a7
  cases hf : findF i c.sets with
  | some q =>
    obtain ⟨s, g1, g2⟩ := findF_mem hf
    simp only [Option.getD_some]
    rw [← g2]
    exact (setsErr_ok (by omega)).1 h4 s g1
  | none =>
    simp only [Option.getD_none]
    refine hrows _ (mem_getD _ _ _ ?_)
    apply Nat.lt_of_not_le
    intro g
    have := (behind_all (x := (t.rows.length : Int)) f6).1 h5 i (by omega) (by omega)
    rw [hf] at this
    cases this
def padF (n : Nat) (fac : List Int) : List Int := (List.range n).map fun i => fac.getD i 0
theorem padF_len {n : Nat} {fac : List Int} : (padF n fac).length = n := by simp [padF]
theorem padF_get {n : Nat} {fac : List Int} {i : Nat} (h : i < n) : (padF n fac).getD i 0 = fac.getD i 0 := by simp [padF, List.getD_eq_getElem?_getD, h]
theorem padF_next {n : Nat} {fac : List Int} : padF (n + 1) fac = padF n fac ++ [fac.getD n 0] := by unfold padF; rw [List.range_succ, List.map_append]; rfl
theorem padF_copy {n : Nat} {fac : List Int} : (fac.map eI).take n ++ (List.replicate n [D.at (.int .i64 0)]).drop fac.length = (padF n fac).map eI := by
  apply List.ext_getElem
  · simp [padF]; omega
  · intro i h1 h2
    simp only [List.length_map, padF_len] at h2
    rw [List.getElem_append]
    simp only [List.length_take, List.length_map, List.getElem_take, List.getElem_map, List.getElem_drop, List.getElem_replicate, padF, List.getElem_range, List.getD_eq_getElem?_getD]
    split
    · rename_i h
      have : i < fac.length := by omega
      simp [this]
    · rename_i h
      have : ¬ i < fac.length := by omega
      simp [this, eI]
noncomputable def nextH (t : PTab) (x : PHint) (c : PChg) : PHint × Int := if checkC t c ≠ 0 then (noHint, checkC t c) else if checkH t x ≠ 0 then (noHint, checkH t x) else makeH (applyF t c).1 (padF (applyF t c).1.rows.length x.fac)
theorem applyF_err {t : PTab} {c : PChg} (h : checkC t c = 0) : applyF t c = ((applyF t c).1, 0) := by
  rw [applyF, if_neg (by simp [h])]
theorem happly (t : PTab) (x : PHint) (c : PChg) (h : TabF t) (hl : x.fac.length ≤ 1000000) (hs : x.sum.length ≤ 1000000) (hc : c.sets.length ≤ 1000000) (hd : ShortS c.sets) : Does Try.prog 50 [vTab t, vHint x, vChg c] [] (.tu [vHint (nextH t x c).1, I (nextH t x c).2]) [] [] := by
  refine go_hint_Apply rfl BxOK.nil fun cx hm0 => go_in 5000 ?_
  unfold ac_hint_Apply rs_hint_Apply
  have hlen := h.len
  have e1 := ccheck t c (by omega) h.short (by omega) hd
  have e2 := hcheck t x h hl hs
  unfold nextH
  by_cases h1 : checkC t c = 0
  · rw [if_neg (by simp [h1])]
    rw [h1] at e1
    by_cases h2 : checkH t x = 0
    · rw [if_neg (by simp [h2])]
      rw [h2] at e2
      have e3 := apply t c (by omega) h.short (by omega) hd
      rw [applyF_err h1] at e3
      have hu := tabF (applyF_fine h1)
      generalize (applyF t c).1 = u at *
      have hul := hu.len
      have e4 := hmake u (padF u.rows.length x.fac) hu (by rw [padF_len]; omega)
      have hcp := padF_copy (n := u.rows.length) (fac := x.fac)
      repeat' (first | simp (maxSteps := 9999999) only [↓GE, PL, PP, EE, QQ, seval, hcp, List.length_map, List.length_replicate] | (simp (disch := omega) only [IntWalk.i64_in]) | (refine go_brD (fun h => ?_) (fun h => ?_)) | (refine go_gsD (by ((try simp only [EE, QQ, seval]) <;> rfl)) (fun h => ?_) (fun h => ?_)) | (refine go_br (fun h => ?_) (fun h => ?_)) | (refine go_gs (by ((try simp only [EE, QQ, seval]) <;> rfl)) (fun h => ?_) (fun h => ?_)) | (apply go_call 5000 (e1) rfl rfl; (· ((try simp only [CC, LL, NM, EE, QQ, seval]) <;> (first | rfl | ((repeat constructor); done)))); (· exact CallForm.plain rfl); (· ((try simp only [CC, LL, NM, EE, QQ, seval]) <;> (first | rfl | ((repeat constructor); done)))); (· ((try simp only [CC, LL, NM, EE, QQ, seval]) <;> (first | rfl | ((repeat constructor); done))))) | (apply go_call 5000 (e2) rfl rfl; (· ((try simp only [CC, LL, NM, EE, QQ, seval]) <;> (first | rfl | ((repeat constructor); done)))); (· exact CallForm.plain rfl); (· ((try simp only [CC, LL, NM, EE, QQ, seval]) <;> (first | rfl | ((repeat constructor); done)))); (· ((try simp only [CC, LL, NM, EE, QQ, seval]) <;> (first | rfl | ((repeat constructor); done))))) | (apply go_call 5000 (e3) rfl rfl; (· ((try simp only [CC, LL, NM, EE, QQ, seval]) <;> (first | rfl | ((repeat constructor); done)))); (· exact CallForm.news rfl rfl); (· ((try simp only [CC, LL, NM, EE, QQ, seval]) <;> (first | rfl | ((repeat constructor); done)))); (· ((try simp only [CC, LL, NM, EE, QQ, seval]) <;> (first | rfl | ((repeat constructor); done))))) | (apply go_call 5000 (e4) rfl rfl; (· ((try simp only [CC, LL, NM, EE, QQ, seval]) <;> (first | rfl | ((repeat constructor); done)))); (· exact CallForm.plain rfl); (· ((try simp only [CC, LL, NM, EE, QQ, seval]) <;> (first | rfl | ((repeat constructor); done)))); (· ((try simp only [CC, LL, NM, EE, QQ, seval]) <;> (first | rfl | ((repeat constructor); done))))) | (with_reducible apply And.intro) | (with_reducible exact trivial) | omega | (simp only [List.length_map, List.length_cons, List.length_nil] at *; omega) | (show _ = true; first | rfl | kernel_rfl))
      all_goals ((first | apply ret_mk [] | apply end_mk []); (· ((try simp only [CC, LL, EE, QQ, seval]) <;> rfl)); (· ((try simp only [CC, LL, EE, QQ, seval]) <;> repeat' (first | (with_reducible apply And.intro) | rfl | trivial | (exact ⟨_, rfl⟩) | (exact ⟨_, _, _, rfl⟩) | (simp [*, ]; done) | (simp [*, ]; omega) | (simp_all []; done) | (simp_all []; omega)))); all_goals (first | trivial | decide | ((try simp only [CC, LL, EE, QQ, seval]) <;> repeat' (first | (with_reducible apply And.intro) | (exact ⟨_, rfl, rfl, rfl⟩) | (exact ⟨_, _, _, rfl⟩) | (exact ⟨_, rfl⟩) | trivial | rfl | (simp; done)))))
    · rw [if_pos h2]
      have q : (checkH t x != 0) = true := by simp [h2]
      generalize checkH t x = e at *
      repeat' (first | simp (maxSteps := 9999999) only [↓GE, PL, PP, EE, QQ, seval, q] | (simp (disch := omega) only [IntWalk.i64_in]) | (refine go_brD (fun h => ?_) (fun h => ?_)) | (refine go_gsD (by ((try simp only [EE, QQ, seval]) <;> rfl)) (fun h => ?_) (fun h => ?_)) | (refine go_br (fun h => ?_) (fun h => ?_)) | (refine go_gs (by ((try simp only [EE, QQ, seval]) <;> rfl)) (fun h => ?_) (fun h => ?_)) | (apply go_call 5000 (e1) rfl rfl; (· ((try simp only [CC, LL, NM, EE, QQ, seval]) <;> (first | rfl | ((repeat constructor); done)))); (· exact CallForm.plain rfl); (· ((try simp only [CC, LL, NM, EE, QQ, seval]) <;> (first | rfl | ((repeat constructor); done)))); (· ((try simp only [CC, LL, NM, EE, QQ, seval]) <;> (first | rfl | ((repeat constructor); done))))) | (apply go_call 5000 (e2) rfl rfl; (· ((try simp only [CC, LL, NM, EE, QQ, seval]) <;> (first | rfl | ((repeat constructor); done)))); (· exact CallForm.plain rfl); (· ((try simp only [CC, LL, NM, EE, QQ, seval]) <;> (first | rfl | ((repeat constructor); done)))); (· ((try simp only [CC, LL, NM, EE, QQ, seval]) <;> (first | rfl | ((repeat constructor); done))))) | (with_reducible apply And.intro) | (with_reducible exact trivial) | omega | (simp only [List.length_map, List.length_cons, List.length_nil] at *; omega) | (show _ = true; first | rfl | kernel_rfl))
      all_goals ((first | apply ret_mk [] | apply end_mk []); (· ((try simp only [CC, LL, EE, QQ, seval]) <;> rfl)); (· ((try simp only [CC, LL, EE, QQ, seval]) <;> repeat' (first | (with_reducible apply And.intro) | rfl | trivial | (exact ⟨_, rfl⟩) | (exact ⟨_, _, _, rfl⟩) | (simp [*, noHint]; done) | (simp [*, noHint]; omega) | (simp_all [noHint]; done) | (simp_all [noHint]; omega)))); all_goals (first | trivial | decide | ((try simp only [CC, LL, EE, QQ, seval]) <;> repeat' (first | (with_reducible apply And.intro) | (exact ⟨_, rfl, rfl, rfl⟩) | (exact ⟨_, _, _, rfl⟩) | (exact ⟨_, rfl⟩) | trivial | rfl | (simp; done)))))
  · rw [if_pos h1]
    have q : (checkC t c != 0) = true := by simp [h1]
    generalize checkC t c = e at *
    repeat' (first | simp (maxSteps := 9999999) only [↓GE, PL, PP, EE, QQ, seval, q] | (simp (disch := omega) only [IntWalk.i64_in]) | (refine go_brD (fun h => ?_) (fun h => ?_)) | (refine go_gsD (by ((try simp only [EE, QQ, seval]) <;> rfl)) (fun h => ?_) (fun h => ?_)) | (refine go_br (fun h => ?_) (fun h => ?_)) | (refine go_gs (by ((try simp only [EE, QQ, seval]) <;> rfl)) (fun h => ?_) (fun h => ?_)) | (apply go_call 5000 (e1) rfl rfl; (· ((try simp only [CC, LL, NM, EE, QQ, seval]) <;> (first | rfl | ((repeat constructor); done)))); (· exact CallForm.plain rfl); (· ((try simp only [CC, LL, NM, EE, QQ, seval]) <;> (first | rfl | ((repeat constructor); done)))); (· ((try simp only [CC, LL, NM, EE, QQ, seval]) <;> (first | rfl | ((repeat constructor); done))))) | (with_reducible apply And.intro) | (with_reducible exact trivial) | omega | (simp only [List.length_map, List.length_cons, List.length_nil] at *; omega) | (show _ = true; first | rfl | kernel_rfl))
    all_goals ((first | apply ret_mk [] | apply end_mk []); (· ((try simp only [CC, LL, EE, QQ, seval]) <;> rfl)); (· ((try simp only [CC, LL, EE, QQ, seval]) <;> repeat' (first | (with_reducible apply And.intro) | rfl | trivial | (exact ⟨_, rfl⟩) | (exact ⟨_, _, _, rfl⟩) | (simp [*, noHint]; done) | (simp [*, noHint]; omega) | (simp_all [noHint]; done) | (simp_all [noHint]; omega)))); all_goals (first | trivial | decide | ((try simp only [CC, LL, EE, QQ, seval]) <;> repeat' (first | (with_reducible apply And.intro) | (exact ⟨_, rfl, rfl, rfl⟩) | (exact ⟨_, _, _, rfl⟩) | (exact ⟨_, rfl⟩) | trivial | rfl | (simp; done)))))
theorem r38apply (t : PTab) (x : PHint) (c : PChg) (h : TabF t) (hl : x.fac.length ≤ 1000000) (hs : x.sum.length ≤ 1000000) (hc : c.sets.length ≤ 1000000) (hd : ShortS c.sets) : Does Try.prog 57 [vTab t, vHint x, vChg c] [] (.tu [vHint (nextH t x c).1, I (nextH t x c).2]) [] [] := by
  refine go_ref38_Apply rfl BxOK.nil fun cx hm0 => go_in 5000 ?_
  unfold ac_ref38_Apply rs_ref38_Apply
  have hlen := h.len
  have e1 := r15check t c (by omega) h.short (by omega) hd
  have e2 := r38check t x h hl hs
  unfold nextH
  by_cases h1 : checkC t c = 0
  · rw [if_neg (by simp [h1])]
    rw [h1] at e1
    by_cases h2 : checkH t x = 0
    · rw [if_neg (by simp [h2])]
      rw [h2] at e2
      have e3 := r15apply t c (by omega) h.short (by omega) hd
      rw [applyF_err h1] at e3
      have hu := tabF (applyF_fine h1)
      generalize (applyF t c).1 = u at *
      have hul := hu.len
      have e4 := r38make u (padF u.rows.length x.fac) hu (by rw [padF_len]; omega)
      repeat' (first | simp (maxSteps := 9999999) only [↓GE, PL, PP, EE, QQ, seval, List.length_map, List.length_replicate] | (simp (disch := omega) only [IntWalk.i64_in]) | (refine go_brD (fun h => ?_) (fun h => ?_)) | (refine go_gsD (by ((try simp only [EE, QQ, seval]) <;> rfl)) (fun h => ?_) (fun h => ?_)) | (refine go_br (fun h => ?_) (fun h => ?_)) | (refine go_gs (by ((try simp only [EE, QQ, seval]) <;> rfl)) (fun h => ?_) (fun h => ?_)) | (apply go_call 5000 (e1) rfl rfl; (· ((try simp only [CC, LL, NM, EE, QQ, seval]) <;> (first | rfl | ((repeat constructor); done)))); (· exact CallForm.plain rfl); (· ((try simp only [CC, LL, NM, EE, QQ, seval]) <;> (first | rfl | ((repeat constructor); done)))); (· ((try simp only [CC, LL, NM, EE, QQ, seval]) <;> (first | rfl | ((repeat constructor); done))))) | (apply go_call 5000 (e2) rfl rfl; (· ((try simp only [CC, LL, NM, EE, QQ, seval]) <;> (first | rfl | ((repeat constructor); done)))); (· exact CallForm.plain rfl); (· ((try simp only [CC, LL, NM, EE, QQ, seval]) <;> (first | rfl | ((repeat constructor); done)))); (· ((try simp only [CC, LL, NM, EE, QQ, seval]) <;> (first | rfl | ((repeat constructor); done))))) | (apply go_call 5000 (e3) rfl rfl; (· ((try simp only [CC, LL, NM, EE, QQ, seval]) <;> (first | rfl | ((repeat constructor); done)))); (· exact CallForm.news rfl rfl); (· ((try simp only [CC, LL, NM, EE, QQ, seval]) <;> (first | rfl | ((repeat constructor); done)))); (· ((try simp only [CC, LL, NM, EE, QQ, seval]) <;> (first | rfl | ((repeat constructor); done))))) | (with_reducible apply And.intro) | (with_reducible exact trivial) | omega | (simp only [List.length_map, List.length_cons, List.length_nil] at *; omega) | (show _ = true; first | rfl | kernel_rfl))
      refine go_loop 5000 hm0 (ι := {q : Nat × Nat // q.1 ≤ u.rows.length}) (fun i => [(4, .bp 4 0 0), (6, .bp 6 0 0), (10, .bp 10 0 0), (12, .og 8 i.1.2), (13, I i.1.1)]) (fun i => [(4, .box 0 [I x.ver, .d (dInts x.fac), .d (dInts x.sum)]), (6, .box 0 [I 0, .nl 1, .nl 1]), (10, .box 0 [I u.num, I u.p, I u.width, .og 33000 0]), (33000, .arr 0 1 true (u.rows.map eR)), (8, .arr i.1.2 1 true ((padF i.1.1 x.fac).map eI))]) (fun i => u.rows.length - i.1.1) [8] ⟨(0, 0), by simp⟩ ?_ ?_
      · (simp only [GeS]; refine ⟨?_, ?_, ?_, ?_⟩; all_goals (repeat' (first | trivial | (with_reducible rfl) | simp only [CC, LL, EE, QQ, seval] | (with_reducible apply And.intro) | rfl | (refine ⟨_, rfl, ?_⟩) | (simp; done) | omega)))
      · rintro ⟨⟨j, v⟩, hj⟩
        simp only at hj
        have hN := padF_next (n := j) (fac := x.fac)
        by_cases hjn : j < u.rows.length
        · by_cases hjf : j < x.fac.length
          · have hs1 := getD_map eI [] 0 x.fac j hjf
            repeat' (first | simp (maxSteps := 9999999) only [↓GE, PL, PP, EE, QQ, seval, hs1, hjf, eI, padF_len, List.length_map] | (simp (disch := omega) only [IntWalk.i64_in]) | (refine go_brD (fun h => ?_) (fun h => ?_)) | (refine go_gsD (by ((try simp only [EE, QQ, seval]) <;> rfl)) (fun h => ?_) (fun h => ?_)) | (refine go_br (fun h => ?_) (fun h => ?_)) | (refine go_gs (by ((try simp only [EE, QQ, seval]) <;> rfl)) (fun h => ?_) (fun h => ?_)) | (with_reducible apply And.intro) | (with_reducible exact trivial) | omega | (simp only [List.length_map, List.length_cons, List.length_nil] at *; omega) | (show _ = true; first | rfl | kernel_rfl))
            refine ⟨⟨(j + 1, v + 1), hjn⟩, ?_, by simp only; omega⟩
            (simp only [GeS]; refine ⟨?_, ?_, ?_, ?_⟩; all_goals (repeat' (first | trivial | (with_reducible rfl) | simp only [CC, LL, EE, QQ, seval] | (with_reducible apply And.intro) | rfl | (refine ⟨_, rfl, ?_⟩) | (simp [hN, eI]; done) | omega)))
          · rw [List.getD_eq_getElem?_getD, List.getElem?_eq_none (by omega)] at hN
            simp only [Option.getD_none] at hN
            repeat' (first | simp (maxSteps := 9999999) only [↓GE, PL, PP, EE, QQ, seval, eI, padF_len, List.length_map] | (simp (disch := omega) only [IntWalk.i64_in]) | (refine go_brD (fun h => ?_) (fun h => ?_)) | (refine go_gsD (by ((try simp only [EE, QQ, seval]) <;> rfl)) (fun h => ?_) (fun h => ?_)) | (refine go_br (fun h => ?_) (fun h => ?_)) | (refine go_gs (by ((try simp only [EE, QQ, seval]) <;> rfl)) (fun h => ?_) (fun h => ?_)) | (with_reducible apply And.intro) | (with_reducible exact trivial) | omega | (simp only [List.length_map, List.length_cons, List.length_nil] at *; omega) | (show _ = true; first | rfl | kernel_rfl))
            refine ⟨⟨(j + 1, v + 1), hjn⟩, ?_, by simp only; omega⟩
            (simp only [GeS]; refine ⟨?_, ?_, ?_, ?_⟩; all_goals (repeat' (first | trivial | (with_reducible rfl) | simp only [CC, LL, EE, QQ, seval] | (with_reducible apply And.intro) | rfl | (refine ⟨_, rfl, ?_⟩) | (simp [hN, eI]; done) | omega)))
        · obtain rfl : j = u.rows.length := by omega
          repeat' (first | simp (maxSteps := 9999999) only [↓GE, PL, PP, EE, QQ, seval, List.length_map] | (simp (disch := omega) only [IntWalk.i64_in]) | (refine go_brD (fun h => ?_) (fun h => ?_)) | (refine go_gsD (by ((try simp only [EE, QQ, seval]) <;> rfl)) (fun h => ?_) (fun h => ?_)) | (refine go_br (fun h => ?_) (fun h => ?_)) | (refine go_gs (by ((try simp only [EE, QQ, seval]) <;> rfl)) (fun h => ?_) (fun h => ?_)) | (apply go_call 5000 (e4) rfl rfl; (· ((try simp only [CC, LL, NM, EE, QQ, seval]) <;> (first | rfl | ((repeat constructor); done)))); (· exact CallForm.plain rfl); (· ((try simp only [CC, LL, NM, EE, QQ, seval]) <;> (first | rfl | ((repeat constructor); done)))); (· ((try simp only [CC, LL, NM, EE, QQ, seval]) <;> (first | rfl | ((repeat constructor); done))))) | (with_reducible apply And.intro) | (with_reducible exact trivial) | omega | (simp only [List.length_map, List.length_cons, List.length_nil] at *; omega) | (show _ = true; first | rfl | kernel_rfl))
          all_goals ((first | apply ret_mk [] | apply end_mk []); (· ((try simp only [CC, LL, EE, QQ, seval]) <;> rfl)); (· ((try simp only [CC, LL, EE, QQ, seval]) <;> repeat' (first | (with_reducible apply And.intro) | rfl | trivial | (exact ⟨_, rfl⟩) | (exact ⟨_, _, _, rfl⟩) | (simp [*, ]; done) | (simp [*, ]; omega) | (simp_all []; done) | (simp_all []; omega)))); all_goals (first | trivial | decide | ((try simp only [CC, LL, EE, QQ, seval]) <;> repeat' (first | (with_reducible apply And.intro) | (exact ⟨_, rfl, rfl, rfl⟩) | (exact ⟨_, _, _, rfl⟩) | (exact ⟨_, rfl⟩) | trivial | rfl | (simp; done)))))
    · rw [if_pos h2]
      have q : (checkH t x != 0) = true := by simp [h2]
      generalize checkH t x = e at *
      repeat' (first | simp (maxSteps := 9999999) only [↓GE, PL, PP, EE, QQ, seval, q] | (simp (disch := omega) only [IntWalk.i64_in]) | (refine go_brD (fun h => ?_) (fun h => ?_)) | (refine go_gsD (by ((try simp only [EE, QQ, seval]) <;> rfl)) (fun h => ?_) (fun h => ?_)) | (refine go_br (fun h => ?_) (fun h => ?_)) | (refine go_gs (by ((try simp only [EE, QQ, seval]) <;> rfl)) (fun h => ?_) (fun h => ?_)) | (apply go_call 5000 (e1) rfl rfl; (· ((try simp only [CC, LL, NM, EE, QQ, seval]) <;> (first | rfl | ((repeat constructor); done)))); (· exact CallForm.plain rfl); (· ((try simp only [CC, LL, NM, EE, QQ, seval]) <;> (first | rfl | ((repeat constructor); done)))); (· ((try simp only [CC, LL, NM, EE, QQ, seval]) <;> (first | rfl | ((repeat constructor); done))))) | (apply go_call 5000 (e2) rfl rfl; (· ((try simp only [CC, LL, NM, EE, QQ, seval]) <;> (first | rfl | ((repeat constructor); done)))); (· exact CallForm.plain rfl); (· ((try simp only [CC, LL, NM, EE, QQ, seval]) <;> (first | rfl | ((repeat constructor); done)))); (· ((try simp only [CC, LL, NM, EE, QQ, seval]) <;> (first | rfl | ((repeat constructor); done))))) | (with_reducible apply And.intro) | (with_reducible exact trivial) | omega | (simp only [List.length_map, List.length_cons, List.length_nil] at *; omega) | (show _ = true; first | rfl | kernel_rfl))
      all_goals ((first | apply ret_mk [] | apply end_mk []); (· ((try simp only [CC, LL, EE, QQ, seval]) <;> rfl)); (· ((try simp only [CC, LL, EE, QQ, seval]) <;> repeat' (first | (with_reducible apply And.intro) | rfl | trivial | (exact ⟨_, rfl⟩) | (exact ⟨_, _, _, rfl⟩) | (simp [*, noHint]; done) | (simp [*, noHint]; omega) | (simp_all [noHint]; done) | (simp_all [noHint]; omega)))); all_goals (first | trivial | decide | ((try simp only [CC, LL, EE, QQ, seval]) <;> repeat' (first | (with_reducible apply And.intro) | (exact ⟨_, rfl, rfl, rfl⟩) | (exact ⟨_, _, _, rfl⟩) | (exact ⟨_, rfl⟩) | trivial | rfl | (simp; done)))))
  · rw [if_pos h1]
    have q : (checkC t c != 0) = true := by simp [h1]
    generalize checkC t c = e at *
    repeat' (first | simp (maxSteps := 9999999) only [↓GE, PL, PP, EE, QQ, seval, q] | (simp (disch := omega) only [IntWalk.i64_in]) | (refine go_brD (fun h => ?_) (fun h => ?_)) | (refine go_gsD (by ((try simp only [EE, QQ, seval]) <;> rfl)) (fun h => ?_) (fun h => ?_)) | (refine go_br (fun h => ?_) (fun h => ?_)) | (refine go_gs (by ((try simp only [EE, QQ, seval]) <;> rfl)) (fun h => ?_) (fun h => ?_)) | (apply go_call 5000 (e1) rfl rfl; (· ((try simp only [CC, LL, NM, EE, QQ, seval]) <;> (first | rfl | ((repeat constructor); done)))); (· exact CallForm.plain rfl); (· ((try simp only [CC, LL, NM, EE, QQ, seval]) <;> (first | rfl | ((repeat constructor); done)))); (· ((try simp only [CC, LL, NM, EE, QQ, seval]) <;> (first | rfl | ((repeat constructor); done))))) | (with_reducible apply And.intro) | (with_reducible exact trivial) | omega | (simp only [List.length_map, List.length_cons, List.length_nil] at *; omega) | (show _ = true; first | rfl | kernel_rfl))
    all_goals ((first | apply ret_mk [] | apply end_mk []); (· ((try simp only [CC, LL, EE, QQ, seval]) <;> rfl)); (· ((try simp only [CC, LL, EE, QQ, seval]) <;> repeat' (first | (with_reducible apply And.intro) | rfl | trivial | (exact ⟨_, rfl⟩) | (exact ⟨_, _, _, rfl⟩) | (simp [*, noHint]; done) | (simp [*, noHint]; omega) | (simp_all [noHint]; done) | (simp_all [noHint]; omega)))); all_goals (first | trivial | decide | ((try simp only [CC, LL, EE, QQ, seval]) <;> repeat' (first | (with_reducible apply And.intro) | (exact ⟨_, rfl, rfl, rfl⟩) | (exact ⟨_, _, _, rfl⟩) | (exact ⟨_, rfl⟩) | trivial | rfl | (simp; done)))))
end Go.Proofs.Ytilkjcobkdjlkaa.Sim
