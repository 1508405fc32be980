/- Changes: Apply. -/
import Derived.Test.YtpliidhbfjjofaaChgG
import Derived.Test.YtpliidhbfjjofaaChgQ
namespace Go.Proofs.Ytpliidhbfjjofaa.Sim
open Go
set_option maxRecDepth 100000
set_option maxHeartbeats 4000000
set_option linter.unusedVariables false
set_option linter.unusedSimpArgs false
attribute [local irreducible] Go Mean
def noTab : PTab := ⟨0, 0, 0, []⟩
noncomputable def applyF (t : PTab) (c : PChg) : PTab × Int := if checkC t c ≠ 0 then (noTab, checkC t c) else (⟨c.tt, t.p, t.width, applyRows t.rows c⟩, 0)
/-- A table and an error, the rows in new memory. -/
abbrev vT (x : PTab × Int) : V := .tu [.ag [I x.1.num, I x.1.p, I x.1.width, .og 1000000 0], I x.2]
abbrev oT (x : PTab × Int) : O := .arr 0 1 true (x.1.rows.map eR)
theorem checkC_ok {t : PTab} {c : PChg} (h : checkC t c = 0) : checkT t = 0 ∧ formF c = true ∧ c.fr = t.num ∧ setsErr t.p t.width c.sets = 0 ∧ (behindF t.rows.length c.sets : Int) = max 0 (c.count - t.rows.length) := by
  unfold checkC at h
  split at h
  · rename_i h1; exact absurd h h1
  split at h
  · cases h
  split at h
  · cases h
  split at h
  · rename_i h1; exact absurd h h1
  split at h
  · cases h
  rename_i h1 h2 h3 h4 h5
  exact ⟨by simpa using h1, by simpa using h2, by simpa using h3, by simpa using h4, by simpa using h5⟩
theorem apply (t : PTab) (c : PChg) (hl : t.rows.length ≤ 17592186044416) (hs : Short t.rows) (hc : c.sets.length ≤ 17592186044416) (hd : ShortS c.sets) : Does Try.prog 14 [vTab t, vChg c] [] (vT (applyF t c)) [] [oT (applyF t c)] := by
  refine go_change_Apply rfl BxOK.nil fun cx hm0 => go_in 5000 ?_
  unfold ac_change_Apply rs_change_Apply
  by_cases h1 : checkC t c = 0
  case neg =>
    have hv : applyF t c = (noTab, checkC t c) := by simp [applyF, h1]
    rw [hv]
    have h1' : (checkC t c != 0) = true := by simpa using h1
    repeat' (first | simp only [↓GE, PL, PP, EE, QQ, seval, h1'] | (simp (disch := omega) only [IntWalk.i64_in]) | (refine go_brD (fun h => ?_) (fun h => ?_)) | (refine go_gsD (by ((try simp only [EE, QQ, seval]) <;> rfl)) (fun h => ?_) (fun h => ?_)) | (refine go_br (fun h => ?_) (fun h => ?_)) | (refine go_gs (by ((try simp only [EE, QQ, seval]) <;> rfl)) (fun h => ?_) (fun h => ?_)) | (apply go_call 5000 (ccheck t c hl hs hc hd) rfl rfl; (· ((try simp only [CC, EE, QQ, seval]) <;> (first | rfl | ((repeat constructor); done)))); (· exact CallForm.plain rfl); (· ((try simp only [CC, EE, QQ, seval]) <;> (first | rfl | ((repeat constructor); done)))); (· ((try simp only [CC, EE, QQ, seval]) <;> (first | rfl | ((repeat constructor); done))))) | (with_reducible apply And.intro) | (with_reducible exact trivial) | omega | (simp only [List.length_map, List.length_cons, List.length_nil] at *; omega) | (show _ = true; first | rfl | kernel_rfl))
    all_goals ((first | apply ret_mk [none] | apply end_mk [none]); (· ((try simp only [CC, EE, QQ, seval]) <;> rfl)); (· ((try simp only [CC, EE, QQ, seval]) <;> repeat' (first | (with_reducible apply And.intro) | rfl | trivial | (exact ⟨_, rfl⟩) | (exact ⟨_, _, _, rfl⟩) | (simp [*, noTab]; done) | (simp [*, noTab]; omega) | (simp_all [noTab]; done) | (simp_all [noTab]; omega)))); all_goals (first | trivial | decide | ((try simp only [CC, EE, QQ, seval]) <;> repeat' (first | (with_reducible apply And.intro) | (exact ⟨_, rfl, rfl, rfl⟩) | (exact ⟨_, _, _, rfl⟩) | (exact ⟨_, rfl⟩) | trivial | rfl | (simp; done)))))
  have hv : applyF t c = (⟨c.tt, t.p, t.width, applyRows t.rows c⟩, 0) := by simp [applyF, h1]
  rw [hv]
  obtain ⟨h2, h3, h4, h5, h6⟩ := checkC_ok h1
  obtain ⟨hf1, hf2, hf3, hf4, hf5, hf6⟩ := formF_ok h3
  obtain ⟨_, hr, _⟩ := checkT_ok h2
  obtain ⟨n, hn⟩ : ∃ n : Nat, n = (min c.count t.rows.length).toNat := ⟨_, rfl⟩
  have hlt : (t.rows.take n).length = n := by rw [List.length_take]; omega
  have hmn : min n t.rows.length = n := by omega
  repeat' (first | simp only [↓GE, PL, PP, EE, QQ, seval, h1, hn.symm, hmn, List.length_map, List.length_take] | (simp (disch := omega) only [IntWalk.i64_in]) | (refine go_brD (fun h => ?_) (fun h => ?_)) | (refine go_gsD (by ((try simp only [EE, QQ, seval]) <;> rfl)) (fun h => ?_) (fun h => ?_)) | (refine go_br (fun h => ?_) (fun h => ?_)) | (refine go_gs (by ((try simp only [EE, QQ, seval]) <;> rfl)) (fun h => ?_) (fun h => ?_)) | (apply go_call 5000 (ccheck t c hl hs hc hd) rfl rfl; (· ((try simp only [CC, EE, QQ, seval]) <;> (first | rfl | ((repeat constructor); done)))); (· exact CallForm.plain rfl); (· ((try simp only [CC, EE, QQ, seval]) <;> (first | rfl | ((repeat constructor); done)))); (· ((try simp only [CC, EE, QQ, seval]) <;> (first | rfl | ((repeat constructor); done))))) | (with_reducible apply And.intro) | (with_reducible exact trivial) | omega | (simp only [List.length_map, List.length_cons, List.length_nil] at *; omega) | (show _ = true; first | rfl | kernel_rfl))
  refine go_loop 5000 hm0 (ι := {p : Nat × List (List Int) // p.1 ≤ n ∧ p.2.length = c.count.toNat ∧ ∀ i, i < c.count.toNat → p.2.getD i [] = if i < p.1 then t.rows.getD i [] else []}) (fun i => [(3, .bp 3 0 0), (4, .bp 4 0 0), (7, .bp 7 0 0), (37, .d (dRows (t.rows.take n))), (38, I n), (39, I i.1.1)]) (fun i => [(3, .box 0 [I c.fr, I c.tt, I c.count, .d (dSets c.sets)]), (4, .box 0 [I 0, I 0, I 0, .nl 1]), (27, .arr 0 1 true (i.1.2.map eR)), (7, .box 0 [I c.tt, I t.p, I t.width, .og 27 0])]) (fun i => n - i.1.1) [] ⟨(0, List.replicate c.count.toNat []), by omega, by simp, fun i h => by simp [List.getD_eq_getElem?_getD, h]⟩ ?_ ?_
  · (simp only [GeS]; refine ⟨?_, ?_, ?_, ?_⟩; all_goals (repeat' (first | trivial | (with_reducible rfl) | simp only [CC, EE, QQ, seval] | (with_reducible apply And.intro) | rfl | (refine ⟨_, rfl, ?_⟩) | (simp [List.map_take, eR, hn, hlt]; done) | omega)))
  · rintro ⟨⟨k, cur⟩, hk, hcl, hg⟩
    simp only at hk hcl hg
    by_cases hkn : k < n
    · have hs1 := getD_map eR [] [] (t.rows.take n) k (by omega)
      have hs2 : (t.rows.take n).getD k [] = t.rows.getD k [] := by simp [List.getD_eq_getElem?_getD, hkn]
      have hr1 := hs _ (mem_getD [] t.rows k (by omega))
      rw [hs2] at hs1
      have hs3 := getD_map eR [] [] cur k (by omega)
      have qk : k < cur.length := by omega
      repeat' (first | simp only [↓GE, PL, PP, EE, QQ, seval, hs1, hs3, qk, eR, List.length_map] | (simp (disch := omega) only [IntWalk.i64_in]) | (refine go_brD (fun h => ?_) (fun h => ?_)) | (refine go_gsD (by ((try simp only [EE, QQ, seval]) <;> rfl)) (fun h => ?_) (fun h => ?_)) | (refine go_br (fun h => ?_) (fun h => ?_)) | (refine go_gs (by ((try simp only [EE, QQ, seval]) <;> rfl)) (fun h => ?_) (fun h => ?_)) | (apply go_call 5000 (cloneInts _ hr1) rfl rfl; (· ((try simp only [CC, EE, QQ, seval]) <;> (first | rfl | ((repeat constructor); done)))); (· exact CallForm.news rfl rfl); (· ((try simp only [CC, EE, QQ, seval]) <;> (first | rfl | ((repeat constructor); done)))); (· ((try simp only [CC, EE, QQ, seval]) <;> (first | rfl | ((repeat constructor); done))))) | (with_reducible apply And.intro) | (with_reducible exact trivial) | omega | (simp only [List.length_map, List.length_cons, List.length_nil] at *; omega) | (show _ = true; first | rfl | kernel_rfl))
      refine ⟨⟨(k + 1, cur.set k (t.rows.getD k [])), hkn, by simp [hcl], fun i hi => by
                                                                                                    rw [getD_set]; simp only
                                                                                                    by_cases h : k = i ∧ i < cur.length
                                                                                                    · rw [if_pos h, h.1.symm, if_pos (by omega)]
                                                                                                    · rw [if_neg h, hg i hi]
                                                                                                      by_cases h2 : i < k
                                                                                                      · rw [if_pos h2, if_pos (by omega)]
                                                                                                      · rw [if_neg h2, if_neg (by omega)]⟩, ?_, by simp only; omega⟩
      (simp only [GeS]; refine ⟨?_, ?_, ?_, ?_⟩; all_goals (repeat' (first | trivial | (with_reducible rfl) | simp only [CC, EE, QQ, seval] | (with_reducible apply And.intro) | rfl | (refine ⟨_, rfl, ?_⟩) | (simp [List.map_set, eR]; done) | omega)))
    · have : k = n := by omega
      subst this
      repeat' (first | simp only [↓GE, PL, PP, EE, QQ, seval, List.length_map] | (simp (disch := omega) only [IntWalk.i64_in]) | (refine go_brD (fun h => ?_) (fun h => ?_)) | (refine go_gsD (by ((try simp only [EE, QQ, seval]) <;> rfl)) (fun h => ?_) (fun h => ?_)) | (refine go_br (fun h => ?_) (fun h => ?_)) | (refine go_gs (by ((try simp only [EE, QQ, seval]) <;> rfl)) (fun h => ?_) (fun h => ?_)) | (with_reducible apply And.intro) | (with_reducible exact trivial) | omega | (simp only [List.length_map, List.length_cons, List.length_nil] at *; omega) | (show _ = true; first | rfl | kernel_rfl))
      refine go_loop 5000 hm0 (ι := {p : Nat × List (List Int) // p.1 ≤ c.sets.length ∧ p.2.length = c.count.toNat ∧ setAll p.2 (c.sets.drop p.1) = applyRows t.rows c}) (fun i => [(4, .bp 4 0 0), (7, .bp 7 0 0), (52, .d (dSets c.sets)), (53, I c.sets.length), (54, I i.1.1)]) (fun i => [(4, .box 0 [I 0, I 0, I 0, .nl 1]), (7, .box 0 [I c.tt, I t.p, I t.width, .og 27 0]), (27, .arr 0 1 true (i.1.2.map eR))]) (fun i => c.sets.length - i.1.1) [] ⟨(0, cur), by simp, hcl, setAll_apply hf6 hf4 cur hcl fun i hi => by
        rw [hg i hi]
        split
        · rfl
        · simp [List.getD_eq_getElem?_getD]; rw [List.getElem?_eq_none (by omega)]; rfl⟩ ?_ ?_
      · (simp only [GeS]; refine ⟨?_, ?_, ?_, ?_⟩; all_goals (repeat' (first | trivial | (with_reducible rfl) | simp only [CC, EE, QQ, seval] | (with_reducible apply And.intro) | rfl | (refine ⟨_, rfl, ?_⟩) | (simp; done) | omega)))
      · rintro ⟨⟨k, cur⟩, hk, hcl, hv⟩
        simp only at hk hcl hv
        by_cases hkl : k < c.sets.length
        · have hs1 := getD_map eSet [] noSet c.sets k hkl
          have hm := mem_getD noSet c.sets k hkl
          have hr1 := hd _ hm
          have hin := formGo_in hf6 _ hm
          rw [drop_get noSet _ _ hkl, setAll] at hv
          generalize c.sets.getD k noSet = s at hs1 hv hr1 hin
          have hs3 := getD_map eR [] [] cur s.idx.toNat (by omega)
          have qk : s.idx.toNat < cur.length := by omega
          repeat' (first | simp only [↓GE, PL, PP, EE, QQ, seval, hs1, hs3, qk, eR, eSet, List.length_map] | (simp (disch := omega) only [IntWalk.i64_in]) | (refine go_brD (fun h => ?_) (fun h => ?_)) | (refine go_gsD (by ((try simp only [EE, QQ, seval]) <;> rfl)) (fun h => ?_) (fun h => ?_)) | (refine go_br (fun h => ?_) (fun h => ?_)) | (refine go_gs (by ((try simp only [EE, QQ, seval]) <;> rfl)) (fun h => ?_) (fun h => ?_)) | (apply go_call 5000 (cloneInts _ hr1) rfl rfl; (· ((try simp only [CC, EE, QQ, seval]) <;> (first | rfl | ((repeat constructor); done)))); (· exact CallForm.news rfl rfl); (· ((try simp only [CC, EE, QQ, seval]) <;> (first | rfl | ((repeat constructor); done)))); (· ((try simp only [CC, EE, QQ, seval]) <;> (first | rfl | ((repeat constructor); done))))) | (with_reducible apply And.intro) | (with_reducible exact trivial) | omega | (simp only [List.length_map, List.length_cons, List.length_nil] at *; omega) | (show _ = true; first | rfl | kernel_rfl))
          refine ⟨⟨(k + 1, cur.set s.idx.toNat s.row), hkl, by simp [hcl], hv⟩, ?_, by simp only; omega⟩
          (simp only [GeS]; refine ⟨?_, ?_, ?_, ?_⟩; all_goals (repeat' (first | trivial | (with_reducible rfl) | simp only [CC, EE, QQ, seval] | (with_reducible apply And.intro) | rfl | (refine ⟨_, rfl, ?_⟩) | (simp [List.map_set, eR]; done) | omega)))
        · have : k = c.sets.length := by omega
          subst this
          simp only [List.drop_length, setAll] at hv
          subst hv
          repeat' (first | simp only [↓GE, PL, PP, EE, QQ, seval] | (simp (disch := omega) only [IntWalk.i64_in]) | (refine go_brD (fun h => ?_) (fun h => ?_)) | (refine go_gsD (by ((try simp only [EE, QQ, seval]) <;> rfl)) (fun h => ?_) (fun h => ?_)) | (refine go_br (fun h => ?_) (fun h => ?_)) | (refine go_gs (by ((try simp only [EE, QQ, seval]) <;> rfl)) (fun h => ?_) (fun h => ?_)) | (with_reducible apply And.intro) | (with_reducible exact trivial) | omega | (simp only [List.length_map, List.length_cons, List.length_nil] at *; omega) | (show _ = true; first | rfl | kernel_rfl))
          all_goals ((first | apply ret_mk [some 27] | apply end_mk [some 27]); (· ((try simp only [CC, EE, QQ, seval]) <;> rfl)); (· ((try simp only [CC, EE, QQ, seval]) <;> repeat' (first | (with_reducible apply And.intro) | rfl | trivial | (exact ⟨_, rfl⟩) | (exact ⟨_, _, _, rfl⟩) | (simp [*, ]; done) | (simp [*, ]; omega) | (simp_all []; done) | (simp_all []; omega)))); all_goals (first | trivial | decide | ((try simp only [CC, EE, QQ, seval]) <;> repeat' (first | (with_reducible apply And.intro) | (exact ⟨_, rfl, rfl, rfl⟩) | (exact ⟨_, _, _, rfl⟩) | (exact ⟨_, rfl⟩) | trivial | rfl | (simp; done)))))
theorem r15apply (t : PTab) (c : PChg) (hl : t.rows.length ≤ 17592186044416) (hs : Short t.rows) (hc : c.sets.length ≤ 17592186044416) (hd : ShortS c.sets) : Does Try.prog 30 [vTab t, vChg c] [] (vT (applyF t c)) [] [oT (applyF t c)] := by
  refine go_ref15_Apply rfl BxOK.nil fun cx hm0 => go_in 5000 ?_
  unfold ac_ref15_Apply rs_ref15_Apply
  by_cases h1 : checkC t c = 0
  case neg =>
    have hv : applyF t c = (noTab, checkC t c) := by simp [applyF, h1]
    rw [hv]
    have h1' : (checkC t c != 0) = true := by simpa using h1
    repeat' (first | simp only [↓GE, PL, PP, EE, QQ, seval, h1'] | (simp (disch := omega) only [IntWalk.i64_in]) | (refine go_brD (fun h => ?_) (fun h => ?_)) | (refine go_gsD (by ((try simp only [EE, QQ, seval]) <;> rfl)) (fun h => ?_) (fun h => ?_)) | (refine go_br (fun h => ?_) (fun h => ?_)) | (refine go_gs (by ((try simp only [EE, QQ, seval]) <;> rfl)) (fun h => ?_) (fun h => ?_)) | (apply go_call 5000 (r15check t c hl hs hc hd) rfl rfl; (· ((try simp only [CC, EE, QQ, seval]) <;> (first | rfl | ((repeat constructor); done)))); (· exact CallForm.plain rfl); (· ((try simp only [CC, EE, QQ, seval]) <;> (first | rfl | ((repeat constructor); done)))); (· ((try simp only [CC, EE, QQ, seval]) <;> (first | rfl | ((repeat constructor); done))))) | (with_reducible apply And.intro) | (with_reducible exact trivial) | omega | (simp only [List.length_map, List.length_cons, List.length_nil] at *; omega) | (show _ = true; first | rfl | kernel_rfl))
    all_goals ((first | apply ret_mk [none] | apply end_mk [none]); (· ((try simp only [CC, EE, QQ, seval]) <;> rfl)); (· ((try simp only [CC, EE, QQ, seval]) <;> repeat' (first | (with_reducible apply And.intro) | rfl | trivial | (exact ⟨_, rfl⟩) | (exact ⟨_, _, _, rfl⟩) | (simp [*, noTab]; done) | (simp [*, noTab]; omega) | (simp_all [noTab]; done) | (simp_all [noTab]; omega)))); all_goals (first | trivial | decide | ((try simp only [CC, EE, QQ, seval]) <;> repeat' (first | (with_reducible apply And.intro) | (exact ⟨_, rfl, rfl, rfl⟩) | (exact ⟨_, _, _, rfl⟩) | (exact ⟨_, rfl⟩) | trivial | rfl | (simp; done)))))
  have hv : applyF t c = (⟨c.tt, t.p, t.width, applyRows t.rows c⟩, 0) := by simp [applyF, h1]
  rw [hv]
  obtain ⟨h2, h3, h4, h5, h6⟩ := checkC_ok h1
  obtain ⟨hf1, hf2, hf3, hf4, hf5, hf6⟩ := formF_ok h3
  obtain ⟨_, hr, _⟩ := checkT_ok h2
  have hb := (behind_all (x := (t.rows.length : Int)) hf6).1 h6
  repeat' (first | simp only [↓GE, PL, PP, EE, QQ, seval, h1, List.length_map] | (simp (disch := omega) only [IntWalk.i64_in]) | (refine go_brD (fun h => ?_) (fun h => ?_)) | (refine go_gsD (by ((try simp only [EE, QQ, seval]) <;> rfl)) (fun h => ?_) (fun h => ?_)) | (refine go_br (fun h => ?_) (fun h => ?_)) | (refine go_gs (by ((try simp only [EE, QQ, seval]) <;> rfl)) (fun h => ?_) (fun h => ?_)) | (apply go_call 5000 (r15check t c hl hs hc hd) rfl rfl; (· ((try simp only [CC, EE, QQ, seval]) <;> (first | rfl | ((repeat constructor); done)))); (· exact CallForm.plain rfl); (· ((try simp only [CC, EE, QQ, seval]) <;> (first | rfl | ((repeat constructor); done)))); (· ((try simp only [CC, EE, QQ, seval]) <;> (first | rfl | ((repeat constructor); done))))) | (with_reducible apply And.intro) | (with_reducible exact trivial) | omega | (simp only [List.length_map, List.length_cons, List.length_nil] at *; omega) | (show _ = true; first | rfl | kernel_rfl))
  refine go_loop 5000 hm0 (ι := {p : Nat × Nat // p.1 ≤ c.count.toNat}) (fun i => [(2, .bp 2 0 0), (3, .bp 3 0 0), (4, .bp 4 0 0), (7, .bp 7 0 0), (8, I i.1.1)]) (fun i => [(2, .box 0 [I t.num, I t.p, I t.width, .d (dRows t.rows)]), (3, .box 0 [I c.fr, I c.tt, I c.count, .d (dSets c.sets)]), (4, .box 0 [I 0, I 0, I 0, .nl 1]), (49, .arr i.1.2 1 true (((List.range i.1.1).map fun (i : Nat) => (findF i c.sets).getD (t.rows.getD i [])).map eR)), (7, .box 0 [I c.tt, I t.p, I t.width, .og 49 i.1.2])]) (fun i => c.count.toNat - i.1.1) [49] ⟨(0, 0), by simp⟩ ?_ ?_
  · (simp only [GeS]; refine ⟨?_, ?_, ?_, ?_⟩; all_goals (repeat' (first | trivial | (with_reducible rfl) | simp only [CC, EE, QQ, seval] | (with_reducible apply And.intro) | rfl | (refine ⟨_, rfl, ?_⟩) | (simp; done) | omega)))
  · rintro ⟨⟨k, v⟩, hk⟩
    simp only at hk
    by_cases hkn : k < c.count.toNat
    · have hfs : ∀ r, findF k c.sets = some r → r.length ≤ 17592186044416 := fun r h => by
        obtain ⟨s, hs1, hs2⟩ := findF_mem h
        rw [← hs2]; exact hd s hs1
      cases hfk : findF k c.sets with
      | some r =>
        have hr := hfs r hfk
        repeat' (first | simp only [↓GE, PL, PP, EE, QQ, seval, hfk, Option.getD_some, Option.isSome_some, eR, List.length_map, List.length_range] | (simp (disch := omega) only [IntWalk.i64_in]) | (refine go_brD (fun h => ?_) (fun h => ?_)) | (refine go_gsD (by ((try simp only [EE, QQ, seval]) <;> rfl)) (fun h => ?_) (fun h => ?_)) | (refine go_br (fun h => ?_) (fun h => ?_)) | (refine go_gs (by ((try simp only [EE, QQ, seval]) <;> rfl)) (fun h => ?_) (fun h => ?_)) | (apply go_call 5000 (r15find c k hc) rfl rfl; (· ((try simp only [CC, EE, QQ, seval]) <;> (first | rfl | ((repeat constructor); done)))); (· exact CallForm.plain rfl); (· ((try simp only [CC, EE, QQ, seval]) <;> (first | rfl | ((repeat constructor); done)))); (· ((try simp only [CC, EE, QQ, seval]) <;> (first | rfl | ((repeat constructor); done))))) | (with_reducible apply And.intro) | (with_reducible exact trivial) | omega | (simp only [List.length_map, List.length_cons, List.length_nil] at *; omega) | (show _ = true; first | rfl | kernel_rfl))
        refine ⟨⟨(k + 1, v + 1), hkn⟩, ?_, by simp only; omega⟩
        (simp only [GeS]; refine ⟨?_, ?_, ?_, ?_⟩; all_goals (repeat' (first | trivial | (with_reducible rfl) | simp only [CC, EE, QQ, seval] | (with_reducible apply And.intro) | rfl | (refine ⟨_, rfl, ?_⟩) | (simp [List.range_succ, hfk, eR]; done) | omega)))
      | none =>
        have hkr : k < t.rows.length := by
          by_cases h : k < t.rows.length
          · exact h
          · have := hb k (by omega) (by omega)
            rw [hfk] at this
            cases this
        have hs1 := getD_map eR [] [] t.rows k hkr
        have hr1 := hs _ (mem_getD [] t.rows k hkr)
        repeat' (first | simp only [↓GE, PL, PP, EE, QQ, seval, hfk, hs1, Option.getD_none, Option.isSome_none, eR, List.length_map, List.length_range] | (simp (disch := omega) only [IntWalk.i64_in]) | (refine go_brD (fun h => ?_) (fun h => ?_)) | (refine go_gsD (by ((try simp only [EE, QQ, seval]) <;> rfl)) (fun h => ?_) (fun h => ?_)) | (refine go_br (fun h => ?_) (fun h => ?_)) | (refine go_gs (by ((try simp only [EE, QQ, seval]) <;> rfl)) (fun h => ?_) (fun h => ?_)) | (apply go_call 5000 (r15find c k hc) rfl rfl; (· ((try simp only [CC, EE, QQ, seval]) <;> (first | rfl | ((repeat constructor); done)))); (· exact CallForm.plain rfl); (· ((try simp only [CC, EE, QQ, seval]) <;> (first | rfl | ((repeat constructor); done)))); (· ((try simp only [CC, EE, QQ, seval]) <;> (first | rfl | ((repeat constructor); done))))) | (with_reducible apply And.intro) | (with_reducible exact trivial) | omega | (simp only [List.length_map, List.length_cons, List.length_nil] at *; omega) | (show _ = true; first | rfl | kernel_rfl))
        refine ⟨⟨(k + 1, v + 1), hkn⟩, ?_, by simp only; omega⟩
        (simp only [GeS]; refine ⟨?_, ?_, ?_, ?_⟩; all_goals (repeat' (first | trivial | (with_reducible rfl) | simp only [CC, EE, QQ, seval] | (with_reducible apply And.intro) | rfl | (refine ⟨_, rfl, ?_⟩) | (simp [List.range_succ, hfk, eR]; done) | omega)))
    · have : k = c.count.toNat := by omega
      subst this
      repeat' (first | simp only [↓GE, PL, PP, EE, QQ, seval] | (simp (disch := omega) only [IntWalk.i64_in]) | (refine go_brD (fun h => ?_) (fun h => ?_)) | (refine go_gsD (by ((try simp only [EE, QQ, seval]) <;> rfl)) (fun h => ?_) (fun h => ?_)) | (refine go_br (fun h => ?_) (fun h => ?_)) | (refine go_gs (by ((try simp only [EE, QQ, seval]) <;> rfl)) (fun h => ?_) (fun h => ?_)) | (with_reducible apply And.intro) | (with_reducible exact trivial) | omega | (simp only [List.length_map, List.length_cons, List.length_nil] at *; omega) | (show _ = true; first | rfl | kernel_rfl))
      all_goals ((first | apply ret_mk [some 49] | apply end_mk [some 49]); (· ((try simp only [CC, EE, QQ, seval]) <;> rfl)); (· ((try simp only [CC, EE, QQ, seval]) <;> repeat' (first | (with_reducible apply And.intro) | rfl | trivial | (exact ⟨_, rfl⟩) | (exact ⟨_, _, _, rfl⟩) | (simp [*, applyRows]; done) | (simp [*, applyRows]; omega) | (simp_all [applyRows]; done) | (simp_all [applyRows]; omega)))); all_goals (first | trivial | decide | ((try simp only [CC, EE, QQ, seval]) <;> repeat' (first | (with_reducible apply And.intro) | (exact ⟨_, rfl, rfl, rfl⟩) | (exact ⟨_, _, _, rfl⟩) | (exact ⟨_, rfl⟩) | trivial | rfl | (simp; done)))))
end Go.Proofs.Ytpliidhbfjjofaa.Sim
