/- Hints: the example. -/
import Derived.Test.YtilkjcobkdjlkaaUhH
namespace Go.Proofs.Ytilkjcobkdjlkaa.Sim
open Go
set_option maxRecDepth 100000
set_option maxHeartbeats 8000000
set_option linter.unusedVariables false
set_option linter.unusedSimpArgs false
attribute [local irreducible] Go Mean
def tEx : PTab := ⟨1, 7, 1, [[3], [5], [6]]⟩
theorem field7 : fieldB 7 = true := fieldB_four 0 (by decide)
theorem tEx_ok : checkT tEx = 0 := by
  rw [checkT, if_neg (by decide), if_neg (by simp [tEx, field7]), if_neg (by decide), if_neg (by decide)]
  decide
theorem sane38 : Does Try.prog 12 [] [] (B true) [] [] := by
  refine go_law38_sane rfl BxOK.nil fun cx hm0 => go_in 5000 ?_
  unfold ac_law38_sane rs_law38_sane
  have e1 := hmake tEx [1, 1, 0] (tabF tEx_ok) (by decide)
  have hm : makeH tEx [1, 1, 0] = (⟨1, [1, 1, 0], [1]⟩, 0) := by
    have hc : combL tEx.p tEx.width.toNat [1, 1, 0] tEx.rows = [1] := by decide +kernel
    rw [makeH, if_neg (by decide), if_pos (by decide), hc]; rfl
  rw [hm] at e1
  have e2 := hwithout 7 ⟨1, [1, 1, 0], [1]⟩ 0 (by decide) (by decide)
  have hb : ∀ l : List Int, l.all (inE 7) = true → inB 7 ⟨1, [1, 1, 0], [1]⟩ l = true := fun l hl => by simp only [inB, field7, hl]; decide
  have hlk : ∀ l : List Int, l.all (inE 7) = true → lookH 7 ⟨1, [1, 1, 0], [1]⟩ 0 l = 0 := fun l hl => by rw [lookH, hb l hl, if_neg (by decide), if_neg (by decide)]
  rw [withF, hlk [] (by decide), if_neg (by decide)] at e2
  have e3 := hrecover 7 ⟨1, [1, 1, 0], [1]⟩ 0 [5] (by decide) (by decide) (by decide)
  rw [recF, hlk [5] (by decide), if_neg (by decide), if_neg (by decide), if_neg (by decide)] at e3
  have hr : recL 7 [1] [5] (invI 7 (([1, 1, 0] : List Int).getD (0 : Int).toNat 0)) = [3] := by decide +kernel
  simp only at e3
  rw [hr] at e3
  simp only [tEx] at e1
  repeat' (first | simp (maxSteps := 9999999) only [↓GE, PL, PP, EE, QQ, seval, List.set_cons_zero, List.set_cons_succ, List.replicate, eI, eR] | (simp (disch := omega) only [IntWalk.i64_in]) | (refine go_brD (fun h => ?_) (fun h => ?_)) | (refine go_gsD (by ((try simp only [EE, QQ, seval]) <;> rfl)) (fun h => ?_) (fun h => ?_)) | (refine go_br (fun h => ?_) (fun h => ?_)) | (refine go_gs (by ((try simp only [EE, QQ, seval]) <;> rfl)) (fun h => ?_) (fun h => ?_)) | (apply go_call 5000 (e1) rfl rfl; (· ((try simp only [CC, LL, NM, EE, QQ, seval]) <;> (first | rfl | ((repeat constructor); done)))); (· exact CallForm.plain rfl); (· ((try simp only [CC, LL, NM, EE, QQ, seval]) <;> (first | rfl | ((repeat constructor); done)))); (· ((try simp only [CC, LL, NM, EE, QQ, seval]) <;> (first | rfl | ((repeat constructor); done))))) | (apply go_call 5000 (e2) rfl rfl; (· ((try simp only [CC, LL, NM, EE, QQ, seval]) <;> (first | rfl | ((repeat constructor); done)))); (· exact CallForm.plain rfl); (· ((try simp only [CC, LL, NM, EE, QQ, seval]) <;> (first | rfl | ((repeat constructor); done)))); (· ((try simp only [CC, LL, NM, EE, QQ, seval]) <;> (first | rfl | ((repeat constructor); done))))) | (apply go_call 5000 (e3) rfl rfl; (· ((try simp only [CC, LL, NM, EE, QQ, seval]) <;> (first | rfl | ((repeat constructor); done)))); (· exact CallForm.plain rfl); (· ((try simp only [CC, LL, NM, EE, QQ, seval]) <;> (first | rfl | ((repeat constructor); done)))); (· ((try simp only [CC, LL, NM, EE, QQ, seval]) <;> (first | rfl | ((repeat constructor); done))))) | (with_reducible apply And.intro) | (with_reducible exact trivial) | omega | (simp only [List.length_map, List.length_cons, List.length_nil] at *; omega) | (show _ = true; first | rfl | kernel_rfl))
  all_goals ((first | apply ret_mk [] | apply end_mk []); (· ((try simp only [CC, LL, EE, QQ, seval]) <;> rfl)); (· ((try simp only [CC, LL, EE, QQ, seval]) <;> repeat' (first | (with_reducible apply And.intro) | rfl | trivial | (exact ⟨_, rfl⟩) | (exact ⟨_, _, _, rfl⟩) | (simp [*, ]; done) | (simp [*, ]; omega) | (simp_all []; done) | (simp_all []; omega)))); all_goals (first | trivial | decide | ((try simp only [CC, LL, EE, QQ, seval]) <;> repeat' (first | (with_reducible apply And.intro) | (exact ⟨_, rfl, rfl, rfl⟩) | (exact ⟨_, _, _, rfl⟩) | (exact ⟨_, rfl⟩) | trivial | rfl | (simp; done)))))
end Go.Proofs.Ytilkjcobkdjlkaa.Sim
