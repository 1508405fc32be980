/- The example, and views that are. -/
import Derived.Test.YtihjmnhjjpdenaaMVwR
namespace Go.Proofs.Ytihjmnhjjpdenaa.Sim
open Go
set_option maxRecDepth 100000
set_option maxHeartbeats 4000000
set_option linter.unusedVariables false
set_option linter.unusedSimpArgs false
attribute [local irreducible] Go Mean
open Go.Proofs.Ytihjmnhjjpdenaa.Vw (flatQ)
theorem sane25 : Does Try.prog 6 [] [] (B true) [] [] := by
  refine go_law25_sane rfl BxOK.nil fun cx hm0 => go_in 5000 ?_
  unfold ac_law25_sane rs_law25_sane
  have e1 : Does Try.prog 10 [.d (dQs [[[1], [2], [3]], [[4], [5], [6]]]), .d (dInts [1, 3])] [] (.tu [vView [1, 3] [[[1], [3]], [[4], [6]]], I 0]) [] [] := vOf [[[1], [2], [3]], [[4], [5], [6]]] [1, 3] (by unfold smQ; decide) (by decide) (by decide)
  have e2 : Does Try.prog 13 [vView [1, 3] [[[1], [3]], [[4], [6]]]] [] (.d (dInts [1, 3, 4, 6])) [] [] := vFlat [1, 3] [[[1], [3]], [[4], [6]]] (by intro q hq x hx n hn; simp at hq; rcases hq with rfl | rfl <;> (simp at hx; rcases hx with rfl | rfl <;> (simp at hn; subst hn; exact ⟨by omega, by omega⟩))) (by decide)
  simp only [dQs, dRows, dInts, List.map_cons, List.map_nil, eQ, eR, eI] at e1 e2
  repeat' (first | simp (maxSteps := 9999999) only [↓GE, PL, PP, EE, QQ, seval, eQ, eR, eI, List.map_cons, List.map_nil, List.length_cons, List.length_nil] | (simp (disch := omega) only [IntWalk.i64_in]) | (refine go_brD (fun h => ?_) (fun h => ?_)) | (refine go_gsD (by ((try simp only [EE, QQ, seval]) <;> rfl)) (fun h => ?_) (fun h => ?_)) | (refine go_br (fun h => ?_) (fun h => ?_)) | (refine go_gs (by ((try simp only [EE, QQ, seval]) <;> rfl)) (fun h => ?_) (fun h => ?_)) | (apply go_call 5000 (e1) rfl rfl; iterate 4 (first | (exact CallForm.plain rfl) | ((try simp only [CC, LL, NM, EE, QQ, seval]) <;> (first | rfl | ((repeat constructor); done))))) | (apply go_call 5000 (e2) rfl rfl; iterate 4 (first | (exact CallForm.plain rfl) | ((try simp only [CC, LL, NM, EE, QQ, seval]) <;> (first | rfl | ((repeat constructor); done))))) | (with_reducible apply And.intro) | (with_reducible exact trivial) | omega | (simp only [List.length_map, List.length_cons, List.length_nil] at *; omega) | (show _ = true; first | rfl | kernel_rfl))
  all_goals ((first | apply ret_mk [] | apply end_mk []); (· ((try simp only [CC, LL, EE, QQ, seval]) <;> rfl)); (· ((try simp only [CC, LL, EE, QQ, seval]) <;> repeat' (first | (with_reducible apply And.intro) | rfl | trivial | (exact ⟨_, rfl⟩) | (exact ⟨_, _, _, rfl⟩) | (simp [*, ]; done) | (simp [*, ]; omega) | (simp_all []; done) | (simp_all []; omega)))); all_goals (first | trivial | decide | ((try simp only [CC, LL, EE, QQ, seval]) <;> repeat' (first | (with_reducible apply And.intro) | (exact ⟨_, rfl, rfl, rfl⟩) | (exact ⟨_, _, _, rfl⟩) | (exact ⟨_, rfl⟩) | trivial | rfl | (simp; done)))))
theorem okOf_in {qs : List (List (List Int))} {l : List Int} {n : Nat} (hq : ∀ q ∈ qs, q.length = n) (ha : asc l = true) (hl : ∀ x ∈ l, x ≤ n) : okOf qs l = true ∧ ofE qs l = 0 := by
  have := okPick_in hq hl
  exact ⟨by rw [okOf, ha, this]; rfl, by rw [ofE, if_pos ha, if_pos this]⟩
theorem vOf_in {qs : List (List (List Int))} {l : List Int} {n : Nat} (hq : ∀ q ∈ qs, q.length = n) (hn : n ≤ 6) (hsm : smQ qs) (hll : l.length ≤ 1000) (ha : asc l = true) (hl : ∀ x ∈ l, x ≤ n) :
    Does Try.prog 10 [.d (dQs qs), .d (dInts l)] [] (.tu [vView l (ofQ qs l), I 0]) [] [] := by
  obtain ⟨h1, h2⟩ := okOf_in hq ha hl
  have := vOf qs l hsm hll (fun x hx => by have := hl x hx; omega)
  rw [h1, h2, if_pos rfl, if_pos rfl] at this
  exact this
end Go.Proofs.Ytihjmnhjjpdenaa.Sim
