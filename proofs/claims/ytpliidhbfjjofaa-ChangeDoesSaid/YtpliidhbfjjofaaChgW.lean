/- ChangeDoes, walked. -/
import Derived.Test.YtpliidhbfjjofaaChgT
import Derived.Test.YtpliidhbfjjofaaSimJn
namespace Go.Proofs.Ytpliidhbfjjofaa.Sim
open Go
set_option maxRecDepth 100000
set_option maxHeartbeats 8000000
set_option linter.unusedVariables false
set_option linter.unusedSimpArgs false
attribute [local irreducible] Go Mean
def sumL : Int → List Nat → Int
  | n, [] => n
  | n, r :: l => sumL (IntKind.i64.wrap (n + r)) l
theorem small (t : PTab) (hl : t.rows.length ≤ 17592186044416) : Does Try.prog 27 [vTab t] [] (B (decide (sumL t.rows.length (t.rows.map List.length) < 1500))) [] [] := by
  refine go_law15_small rfl BxOK.nil fun cx hm0 => go_in 5000 ?_
  unfold ac_law15_small rs_law15_small
  generalize htot : sumL t.rows.length (t.rows.map List.length) = tot
  repeat' (first | simp only [↓GE, PL, PP, EE, QQ, seval, List.length_map] | (simp (disch := omega) only [IntWalk.i64_in]) | (refine go_brD (fun h => ?_) (fun h => ?_)) | (refine go_gsD (by ((try simp only [EE, QQ, seval]) <;> rfl)) (fun h => ?_) (fun h => ?_)) | (refine go_br (fun h => ?_) (fun h => ?_)) | (refine go_gs (by ((try simp only [EE, QQ, seval]) <;> rfl)) (fun h => ?_) (fun h => ?_)) | (with_reducible apply And.intro) | (with_reducible exact trivial) | omega | (simp only [List.length_map, List.length_cons, List.length_nil] at *; omega) | (show _ = true; first | rfl | kernel_rfl))
  refine go_loop 5000 hm0 (ι := {p : Nat × Int // p.1 ≤ t.rows.length ∧ tot = sumL p.2 ((t.rows.drop p.1).map List.length)}) (fun i => [(3, I i.1.2), (10, .d (dRows t.rows)), (11, I t.rows.length), (12, I i.1.1)]) (fun i => []) (fun i => t.rows.length - i.1.1) [] ⟨(0, t.rows.length), Nat.zero_le _, htot.symm⟩ ?_ ?_
  · (simp only [GeS]; refine ⟨?_, ?_, ?_, ?_⟩; all_goals (repeat' (first | trivial | (with_reducible rfl) | simp only [CC, EE, QQ, seval] | (with_reducible apply And.intro) | rfl | (refine ⟨_, rfl, ?_⟩) | (simp; done) | omega)))
  · rintro ⟨⟨k, n⟩, hk, hv⟩
    simp only at hk hv
    by_cases hkl : k < t.rows.length
    · have hs1 := getD_map eR [] [] t.rows k hkl
      rw [drop_get [] _ _ hkl, List.map_cons, sumL] at hv
      generalize t.rows.getD k [] = r at hs1 hv
      repeat' (first | simp only [↓GE, PL, PP, EE, QQ, seval, hs1, eR, List.length_map] | (simp (disch := omega) only [IntWalk.i64_in]) | (refine go_brD (fun h => ?_) (fun h => ?_)) | (refine go_gsD (by ((try simp only [EE, QQ, seval]) <;> rfl)) (fun h => ?_) (fun h => ?_)) | (refine go_br (fun h => ?_) (fun h => ?_)) | (refine go_gs (by ((try simp only [EE, QQ, seval]) <;> rfl)) (fun h => ?_) (fun h => ?_)) | (with_reducible apply And.intro) | (with_reducible exact trivial) | omega | (simp only [List.length_map, List.length_cons, List.length_nil] at *; omega) | (show _ = true; first | rfl | kernel_rfl))
      refine ⟨⟨(k + 1, IntKind.i64.wrap (n + r.length)), hkl, hv⟩, ?_, by simp only; omega⟩
      (simp only [GeS]; refine ⟨?_, ?_, ?_, ?_⟩; all_goals (repeat' (first | trivial | (with_reducible rfl) | simp only [CC, EE, QQ, seval] | (with_reducible apply And.intro) | rfl | (refine ⟨_, rfl, ?_⟩) | (simp; done) | omega)))
    · have : k = t.rows.length := by omega
      subst this
      simp only [List.drop_length, List.map_nil, sumL] at hv
      subst hv
      repeat' (first | simp only [↓GE, PL, PP, EE, QQ, seval] | (simp (disch := omega) only [IntWalk.i64_in]) | (refine go_brD (fun h => ?_) (fun h => ?_)) | (refine go_gsD (by ((try simp only [EE, QQ, seval]) <;> rfl)) (fun h => ?_) (fun h => ?_)) | (refine go_br (fun h => ?_) (fun h => ?_)) | (refine go_gs (by ((try simp only [EE, QQ, seval]) <;> rfl)) (fun h => ?_) (fun h => ?_)) | (with_reducible apply And.intro) | (with_reducible exact trivial) | omega | (simp only [List.length_map, List.length_cons, List.length_nil] at *; omega) | (show _ = true; first | rfl | kernel_rfl))
      all_goals ((first | apply ret_mk [] | apply end_mk []); (· ((try simp only [CC, EE, QQ, seval]) <;> rfl)); (· ((try simp only [CC, EE, QQ, seval]) <;> repeat' (first | (with_reducible apply And.intro) | rfl | trivial | (exact ⟨_, rfl⟩) | (exact ⟨_, _, _, rfl⟩) | (simp [*, ]; done) | (simp [*, ]; omega) | (simp_all []; done) | (simp_all []; omega)))); all_goals (first | trivial | decide | ((try simp only [CC, EE, QQ, seval]) <;> repeat' (first | (with_reducible apply And.intro) | (exact ⟨_, rfl, rfl, rfl⟩) | (exact ⟨_, _, _, rfl⟩) | (exact ⟨_, rfl⟩) | trivial | rfl | (simp; done)))))
theorem fewC (c : PChg) (hl : c.sets.length ≤ 17592186044416) : Does Try.prog 28 [vChg c] [] (B (decide (sumL c.sets.length (c.sets.map fun s => s.row.length) < 1500) && decide (c.count < 5000))) [] [] := by
  refine go_law15_few rfl BxOK.nil fun cx hm0 => go_in 5000 ?_
  unfold ac_law15_few rs_law15_few
  generalize htot : sumL c.sets.length (c.sets.map fun s => s.row.length) = tot
  repeat' (first | simp only [↓GE, PL, PP, EE, QQ, seval, List.length_map] | (simp (disch := omega) only [IntWalk.i64_in]) | (refine go_brD (fun h => ?_) (fun h => ?_)) | (refine go_gsD (by ((try simp only [EE, QQ, seval]) <;> rfl)) (fun h => ?_) (fun h => ?_)) | (refine go_br (fun h => ?_) (fun h => ?_)) | (refine go_gs (by ((try simp only [EE, QQ, seval]) <;> rfl)) (fun h => ?_) (fun h => ?_)) | (with_reducible apply And.intro) | (with_reducible exact trivial) | omega | (simp only [List.length_map, List.length_cons, List.length_nil] at *; omega) | (show _ = true; first | rfl | kernel_rfl))
  refine go_loop 5000 hm0 (ι := {p : Nat × Int // p.1 ≤ c.sets.length ∧ tot = sumL p.2 ((c.sets.drop p.1).map fun s => s.row.length)}) (fun i => [(1, .bp 1 0 0), (3, I i.1.2), (10, .d (dSets c.sets)), (11, I c.sets.length), (12, I i.1.1)]) (fun i => [(1, .box 0 [I c.fr, I c.tt, I c.count, .d (dSets c.sets)])]) (fun i => c.sets.length - i.1.1) [] ⟨(0, c.sets.length), Nat.zero_le _, htot.symm⟩ ?_ ?_
  · (simp only [GeS]; refine ⟨?_, ?_, ?_, ?_⟩; all_goals (repeat' (first | trivial | (with_reducible rfl) | simp only [CC, EE, QQ, seval] | (with_reducible apply And.intro) | rfl | (refine ⟨_, rfl, ?_⟩) | (simp; done) | omega)))
  · rintro ⟨⟨k, n⟩, hk, hv⟩
    simp only at hk hv
    by_cases hkl : k < c.sets.length
    · have hs1 := getD_map eSet [] noSet c.sets k hkl
      rw [drop_get noSet _ _ hkl, List.map_cons, sumL] at hv
      generalize c.sets.getD k noSet = r at hs1 hv
      repeat' (first | simp only [↓GE, PL, PP, EE, QQ, seval, hs1, eSet, List.length_map] | (simp (disch := omega) only [IntWalk.i64_in]) | (refine go_brD (fun h => ?_) (fun h => ?_)) | (refine go_gsD (by ((try simp only [EE, QQ, seval]) <;> rfl)) (fun h => ?_) (fun h => ?_)) | (refine go_br (fun h => ?_) (fun h => ?_)) | (refine go_gs (by ((try simp only [EE, QQ, seval]) <;> rfl)) (fun h => ?_) (fun h => ?_)) | (with_reducible apply And.intro) | (with_reducible exact trivial) | omega | (simp only [List.length_map, List.length_cons, List.length_nil] at *; omega) | (show _ = true; first | rfl | kernel_rfl))
      refine ⟨⟨(k + 1, IntKind.i64.wrap (n + r.row.length)), hkl, hv⟩, ?_, by simp only; omega⟩
      (simp only [GeS]; refine ⟨?_, ?_, ?_, ?_⟩; all_goals (repeat' (first | trivial | (with_reducible rfl) | simp only [CC, EE, QQ, seval] | (with_reducible apply And.intro) | rfl | (refine ⟨_, rfl, ?_⟩) | (simp; done) | omega)))
    · have : k = c.sets.length := by omega
      subst this
      simp only [List.drop_length, List.map_nil, sumL] at hv
      subst hv
      cases hb : decide (tot < 1500) with
      | true =>
        rw [Bool.true_and]
        repeat' (first | simp only [↓GE, PL, PP, EE, QQ, seval, hb] | (simp (disch := omega) only [IntWalk.i64_in]) | (refine go_brD (fun h => ?_) (fun h => ?_)) | (refine go_gsD (by ((try simp only [EE, QQ, seval]) <;> rfl)) (fun h => ?_) (fun h => ?_)) | (refine go_br (fun h => ?_) (fun h => ?_)) | (refine go_gs (by ((try simp only [EE, QQ, seval]) <;> rfl)) (fun h => ?_) (fun h => ?_)) | (with_reducible apply And.intro) | (with_reducible exact trivial) | omega | (simp only [List.length_map, List.length_cons, List.length_nil] at *; omega) | (show _ = true; first | rfl | kernel_rfl))
        all_goals ((first | apply ret_mk [] | apply end_mk []); (· ((try simp only [CC, EE, QQ, seval]) <;> rfl)); (· ((try simp only [CC, EE, QQ, seval]) <;> repeat' (first | (with_reducible apply And.intro) | rfl | trivial | (exact ⟨_, rfl⟩) | (exact ⟨_, _, _, rfl⟩) | (simp [*, ]; done) | (simp [*, ]; omega) | (simp_all []; done) | (simp_all []; omega)))); all_goals (first | trivial | decide | ((try simp only [CC, EE, QQ, seval]) <;> repeat' (first | (with_reducible apply And.intro) | (exact ⟨_, rfl, rfl, rfl⟩) | (exact ⟨_, _, _, rfl⟩) | (exact ⟨_, rfl⟩) | trivial | rfl | (simp; done)))))
      | false =>
        rw [Bool.false_and]
        repeat' (first | simp only [↓GE, PL, PP, EE, QQ, seval, hb] | (simp (disch := omega) only [IntWalk.i64_in]) | (refine go_brD (fun h => ?_) (fun h => ?_)) | (refine go_gsD (by ((try simp only [EE, QQ, seval]) <;> rfl)) (fun h => ?_) (fun h => ?_)) | (refine go_br (fun h => ?_) (fun h => ?_)) | (refine go_gs (by ((try simp only [EE, QQ, seval]) <;> rfl)) (fun h => ?_) (fun h => ?_)) | (with_reducible apply And.intro) | (with_reducible exact trivial) | omega | (simp only [List.length_map, List.length_cons, List.length_nil] at *; omega) | (show _ = true; first | rfl | kernel_rfl))
        all_goals ((first | apply ret_mk [] | apply end_mk []); (· ((try simp only [CC, EE, QQ, seval]) <;> rfl)); (· ((try simp only [CC, EE, QQ, seval]) <;> repeat' (first | (with_reducible apply And.intro) | rfl | trivial | (exact ⟨_, rfl⟩) | (exact ⟨_, _, _, rfl⟩) | (simp [*, ]; done) | (simp [*, ]; omega) | (simp_all []; done) | (simp_all []; omega)))); all_goals (first | trivial | decide | ((try simp only [CC, EE, QQ, seval]) <;> repeat' (first | (with_reducible apply And.intro) | (exact ⟨_, rfl, rfl, rfl⟩) | (exact ⟨_, _, _, rfl⟩) | (exact ⟨_, rfl⟩) | trivial | rfl | (simp; done)))))
def eTab (t : PTab) : List D := [.at (.int .i64 t.num), .at (.int .i64 t.p), .at (.int .i64 t.width), dRows t.rows]
def eChg (c : PChg) : List D := [.at (.int .i64 c.fr), .at (.int .i64 c.tt), .at (.int .i64 c.count), dSets c.sets]
abbrev bT (t : PTab) : List V := [I t.num, I t.p, I t.width, .d (dRows t.rows)]
abbrev bC (c : PChg) : List V := [I c.fr, I c.tt, I c.count, .d (dSets c.sets)]
def okT (t : PTab) : Prop := t.rows.length ≤ 17592186044416 ∧ Short t.rows
def okC (c : PChg) : Prop := c.sets.length ≤ 17592186044416 ∧ ShortS c.sets
theorem applyRows_short {rows : List (List Int)} {c : PChg} (hr : Short rows) (hc : ShortS c.sets) : Short (applyRows rows c) := by
  intro r h
  obtain ⟨i, hi, rfl⟩ := List.mem_map.1 h
  cases hf : findF i c.sets with
  | some q => obtain ⟨s, h1, h2⟩ := findF_mem hf; simp only [Option.getD_some]; rw [← h2]; exact hc s h1
  | none =>
    simp only [Option.getD_none]
    by_cases h2 : i < rows.length
    · exact hr _ (mem_getD [] rows i h2)
    · rw [List.getD_eq_getElem?_getD, List.getElem?_eq_none (by omega)]; simp
theorem applyF_ok {t : PTab} {c : PChg} (ht : okT t) (hc : okC c) : okT (applyF t c).1 := by
  unfold applyF
  split
  · exact ⟨by simp [noTab], fun r h => by cases h⟩
  · rename_i h
    have h := (checkC_ok (by simpa using h)).2.1
    have := formF_ok h
    exact ⟨by simp only [applyRows_len]; omega, applyRows_short ht.2 hc.2⟩
theorem betweenF_ok {a b : PTab} (hb : okT b) : okC (betweenF a b).1 := by
  have h0 : okC noChg := ⟨by simp [noChg], fun r h => by cases h⟩
  have hlen : ∀ (ra l : List (List Int)) (k : Nat), (diffGo ra k l).length ≤ l.length := by
    intro ra l
    induction l with
    | nil => intro k; exact Nat.le_refl _
    | cons r l ih =>
      intro k
      rw [diffGo]
      have := ih (k + 1)
      split <;> simp only [List.length_cons] <;> omega
  unfold betweenF
  split
  · exact h0
  split
  · exact h0
  split
  · exact h0
  split
  · exact h0
  · exact ⟨Nat.le_trans (hlen _ _ _) hb.1, fun s hs => hb.2 _ (diffGo_mem _ _ _ s hs)⟩
theorem joinF_ok {a b : PChg} (ha : okC a) (hb : okC b) : okC (joinF a b).1 := by
  have h0 : okC noChg := ⟨by simp [noChg], fun r h => by cases h⟩
  unfold joinF
  split
  · exact h0
  split
  · exact h0
  · rename_i h _
    have h1 : formF a = true := by cases h : formF a <;> simp_all
    have h2 : formF b = true := by cases h : formF b <;> simp_all
    have hf := mergeF_form (formF_ok h1).2.2.2.2.2 (formF_ok h2).2.2.2.2.2
    have := formF_ok h2
    refine ⟨?_, fun s hs => (mergeF_mem s hs).elim (ha.2 s) (hb.2 s)⟩
    by_cases hc : (-1 : Int) < b.count
    · have := formGo_len hf hc; simp only; omega
    · simp only; omega
theorem digsF_ok {l : List Int} {c : PChg} : (digsF l c).1.length ≤ 17592186044416 := by
  unfold digsF
  split
  · rename_i h
    have := formF_ok h.1
    simp only [digL_len]; omega
  · simp
end Go.Proofs.Ytpliidhbfjjofaa.Sim
