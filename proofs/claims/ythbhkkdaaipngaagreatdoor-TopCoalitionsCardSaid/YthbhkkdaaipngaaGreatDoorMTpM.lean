/- A list with a single 1. -/
import Derived.Test.YthbhkkdaaipngaaGreatDoorMTpJ
namespace Go.Proofs.YthbhkkdaaipngaaGreatDoor.Sim
open Go Go.RowKit Go.Deep
set_option maxRecDepth 100000
set_option maxHeartbeats 4000000
set_option linter.unusedVariables false
set_option linter.unusedSimpArgs false
attribute [local irreducible] Go Mean
/-- Where the single 1 is, as the program looks for it. -/
def oneF : Nat → Nat → Bool → List Int → Nat × Bool
  | _, ix, fd, [] => (ix, fd)
  | i, ix, fd, x :: r => if x = 0 then oneF (i + 1) ix fd r else if x = 1 ∧ fd = false then oneF (i + 1) i true r else (0, false)
theorem oneT (l : List Int) (hl : l.length ≤ 1000000) : Does Tryz.prog 30 [.d (dInts l)] [] (.tu [I (oneF 0 0 false l).1, B (oneF 0 0 false l).2]) [] [] := by
  refine go_residue_One rfl BxOK.nil fun cx hm0 => go_in 5000 ?_
  unfold ac_residue_One rs_residue_One
  repeat' (first | simp (maxSteps := 9999999) only [↓GE, PL, PP, EE, QQ, seval, List.length_map] | (simp (disch := omega) only [IntWalk.i64_in]) | (refine go_brD (fun h => ?_) (fun h => ?_)) | (refine go_gsD aE (fun h => ?_) (fun h => ?_)) | (refine go_br (fun h => ?_) (fun h => ?_)) | (refine go_gs aE (fun h => ?_) (fun h => ?_)) | (with_reducible apply And.intro) | exact aG | fail)
  refine go_loop 5000 hm0 (ι := {q : Nat × Nat × Bool // q.1 ≤ l.length ∧ oneF 0 0 false l = oneF q.1 q.2.1 q.2.2 (l.drop q.1)}) (fun q => [(4, I q.1.2.1), (5, B q.1.2.2), (8, .d (dInts l)), (9, I l.length), (10, I q.1.1)]) (fun q => []) (fun q => l.length - q.1.1) [] ⟨(0, 0, false), Nat.zero_le _, rfl⟩ ?_ ?_
  · exact aH
  · rintro ⟨⟨k, ix, fd⟩, hk, hv⟩
    simp only at hk hv ⊢
    by_cases hkl : k < l.length
    · have q1 : decide ((k : Int) < (l.length : Int)) = true := decide_eq_true (by omega)
      have w1 : IntKind.i64.wrap ((k : Int) + 1) = ((k + 1 : Nat) : Int) := by rw [IntWalk.i64_in _ (by omega)]; omega
      have hs := getD_map eI [] 0 l k hkl
      rw [drop_get 0 _ _ hkl] at hv
      generalize l.getD k 0 = x at hs hv
      simp only [oneF] at hv
      by_cases h0 : x = 0
      · rw [if_pos h0] at hv
        have q2 : (x == 0) = true := by simpa using h0
        repeat' (first | simp (maxSteps := 9999999) only [↓GE, PL, PP, EE, QQ, seval, q1, w1, hs, hkl, q2, eI, List.length_map] | (simp (disch := omega) only [IntWalk.i64_in]) | (refine go_brD (fun h => ?_) (fun h => ?_)) | (refine go_gsD aE (fun h => ?_) (fun h => ?_)) | (refine go_br (fun h => ?_) (fun h => ?_)) | (refine go_gs aE (fun h => ?_) (fun h => ?_)) | (with_reducible apply And.intro) | exact aG | fail)
        refine ⟨⟨(k + 1, ix, fd), hkl, hv⟩, ?_, by simp only; omega⟩
        exact aH
      · rw [if_neg h0] at hv
        have q2 : (x == 0) = false := by simpa using h0
        by_cases h1 : x = 1
        · have q3 : (x == 1) = true := by simpa using h1
          cases fd with
          | false =>
            rw [if_pos ⟨h1, rfl⟩] at hv
            repeat' (first | simp (maxSteps := 9999999) only [↓GE, PL, PP, EE, QQ, seval, q1, w1, hs, hkl, q2, q3, eI, List.length_map] | (simp (disch := omega) only [IntWalk.i64_in]) | (refine go_brD (fun h => ?_) (fun h => ?_)) | (refine go_gsD aE (fun h => ?_) (fun h => ?_)) | (refine go_br (fun h => ?_) (fun h => ?_)) | (refine go_gs aE (fun h => ?_) (fun h => ?_)) | (with_reducible apply And.intro) | exact aG | fail)
            refine ⟨⟨(k + 1, k, true), hkl, hv⟩, ?_, by simp only; omega⟩
            exact aH
          | true =>
            rw [if_neg (by simp)] at hv
            rw [hv]
            repeat' (first | simp (maxSteps := 9999999) only [↓GE, PL, PP, EE, QQ, seval, q1, w1, hs, hkl, q2, q3, eI, List.length_map] | (simp (disch := omega) only [IntWalk.i64_in]) | (refine go_brD (fun h => ?_) (fun h => ?_)) | (refine go_gsD aE (fun h => ?_) (fun h => ?_)) | (refine go_br (fun h => ?_) (fun h => ?_)) | (refine go_gs aE (fun h => ?_) (fun h => ?_)) | (with_reducible apply And.intro) | exact aG | fail)
            ((first | apply ret_mk [] | apply end_mk []); (· exact aR); (· exact aZ); all_goals exact aF)
        · have q3 : (x == 1) = false := by simpa using h1
          rw [if_neg (fun h => h1 h.1)] at hv
          rw [hv]
          repeat' (first | simp (maxSteps := 9999999) only [↓GE, PL, PP, EE, QQ, seval, q1, w1, hs, hkl, q2, q3, eI, List.length_map] | (simp (disch := omega) only [IntWalk.i64_in]) | (refine go_brD (fun h => ?_) (fun h => ?_)) | (refine go_gsD aE (fun h => ?_) (fun h => ?_)) | (refine go_br (fun h => ?_) (fun h => ?_)) | (refine go_gs aE (fun h => ?_) (fun h => ?_)) | (with_reducible apply And.intro) | exact aG | fail)
          ((first | apply ret_mk [] | apply end_mk []); (· exact aR); (· exact aZ); all_goals exact aF)
    · obtain rfl : k = l.length := by omega
      have q1 : decide ((l.length : Int) < (l.length : Int)) = false := decide_eq_false (by omega)
      rw [List.drop_length] at hv
      simp only [oneF] at hv
      rw [hv]
      repeat' (first | simp (maxSteps := 9999999) only [↓GE, PL, PP, EE, QQ, seval, q1] | (simp (disch := omega) only [IntWalk.i64_in]) | (refine go_brD (fun h => ?_) (fun h => ?_)) | (refine go_gsD aE (fun h => ?_) (fun h => ?_)) | (refine go_br (fun h => ?_) (fun h => ?_)) | (refine go_gs aE (fun h => ?_) (fun h => ?_)) | (with_reducible apply And.intro) | exact aG | fail)
      ((first | apply ret_mk [] | apply end_mk []); (· exact aR); (· exact aZ); all_goals exact aF)
end Go.Proofs.YthbhkkdaaipngaaGreatDoor.Sim
