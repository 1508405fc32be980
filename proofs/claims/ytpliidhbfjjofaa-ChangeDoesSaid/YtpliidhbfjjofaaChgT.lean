/- The example of the chapter; decks and changes that are made. -/
import Derived.Test.YtpliidhbfjjofaaChgS
namespace Go.Proofs.Ytpliidhbfjjofaa.Sim
open Go
set_option maxRecDepth 100000
set_option maxHeartbeats 4000000
set_option linter.unusedVariables false
set_option linter.unusedSimpArgs false
attribute [local irreducible] Go Mean
theorem makeNew (l : List Int) : Does Try.prog 10 [.d (dInts l)] [] (.bp 1000000 0 0) [] [.box 0 [.d (dInts l), I 0]] := by
  refine go_make_New rfl BxOK.nil fun cx hm0 => go_in 5000 ?_
  unfold ac_make_New rs_make_New
  repeat' (first | simp only [↓GE, PL, PP, EE, QQ, seval] | (simp (disch := omega) only [IntWalk.i64_in]) | (refine go_brD (fun h => ?_) (fun h => ?_)) | (refine go_gsD (by ((try simp only [EE, QQ, seval]) <;> rfl)) (fun h => ?_) (fun h => ?_)) | (refine go_br (fun h => ?_) (fun h => ?_)) | (refine go_gs (by ((try simp only [EE, QQ, seval]) <;> rfl)) (fun h => ?_) (fun h => ?_)) | (with_reducible apply And.intro) | (with_reducible exact trivial) | omega | (simp only [List.length_map, List.length_cons, List.length_nil] at *; omega) | (show _ = true; first | rfl | kernel_rfl))
  all_goals ((first | apply ret_mk [some 5] | apply end_mk [some 5]); (· ((try simp only [CC, EE, QQ, seval]) <;> rfl)); (· ((try simp only [CC, EE, QQ, seval]) <;> repeat' (first | (with_reducible apply And.intro) | rfl | trivial | (exact ⟨_, rfl⟩) | (exact ⟨_, _, _, rfl⟩) | (simp [*, ]; done) | (simp [*, ]; omega) | (simp_all []; done) | (simp_all []; omega)))); all_goals (first | trivial | decide | ((try simp only [CC, EE, QQ, seval]) <;> repeat' (first | (with_reducible apply And.intro) | (exact ⟨_, rfl, rfl, rfl⟩) | (exact ⟨_, _, _, rfl⟩) | (exact ⟨_, rfl⟩) | trivial | rfl | (simp; done)))))
theorem makeChange (l : List Int) (hl : l.length ≤ 17592186044416) (k : Nat) (t : PTab) {n : Nat} (h : TabOK t n) (hn : n ≤ 50) : Does Try.prog 20 [dkp, vTab t] (dk l k) (.ag [I t.num, I (latG l k t).1.num, I (latG l k t).1.rows.length, .og 1000000 0]) (dk l (latG l k t).2) [.arr 0 2 true ((diffGo t.rows 0 (latG l k t).1.rows).map eSet)] := by
  refine go_make_Change rfl BxOK.one fun cx hm0 => go_in 5000 ?_
  unfold ac_make_Change rs_make_Change
  have hY := latG_ok l k h
  obtain ⟨y1, y2, y3⟩ := latG_later l k t
  have hb := r15between t (latG l k t).1 (by have := h.len; omega) h.short (by have := hY.len; omega) hY.short
  rw [(between_leads (h.check (by omega)) (hY.check (by omega)) y2.symm y3.symm y1).1] at hb
  repeat' (first | simp only [↓GE, PL, PP, EE, QQ, seval] | (simp (disch := omega) only [IntWalk.i64_in]) | (refine go_brD (fun h => ?_) (fun h => ?_)) | (refine go_gsD (by ((try simp only [EE, QQ, seval]) <;> rfl)) (fun h => ?_) (fun h => ?_)) | (refine go_br (fun h => ?_) (fun h => ?_)) | (refine go_gs (by ((try simp only [EE, QQ, seval]) <;> rfl)) (fun h => ?_) (fun h => ?_)) | (apply go_call 5000 (makeLater l hl k t h hn) rfl rfl; (· ((try simp only [CC, EE, QQ, seval]) <;> (first | rfl | ((repeat constructor); done)))); (· exact CallForm.box1 (by first | decide | (refine ⟨by decide, ?_⟩; first | (right; simp; done) | (left; simp; done))) (by ((try simp only [EE, QQ, seval]) <;> rfl)) rfl rfl rfl rfl); (· ((try simp only [CC, EE, QQ, seval]) <;> (first | rfl | ((repeat constructor); done)))); (· ((try simp only [CC, EE, QQ, seval]) <;> (first | rfl | ((repeat constructor); done))))) | (apply go_call 5000 (hb) rfl rfl; (· ((try simp only [CC, EE, QQ, seval]) <;> (first | rfl | ((repeat constructor); done)))); (· exact CallForm.news rfl rfl); (· ((try simp only [CC, EE, QQ, seval]) <;> (first | rfl | ((repeat constructor); done)))); (· ((try simp only [CC, EE, QQ, seval]) <;> (first | rfl | ((repeat constructor); done))))) | (with_reducible apply And.intro) | (with_reducible exact trivial) | omega | (simp only [List.length_map, List.length_cons, List.length_nil] at *; omega) | (show _ = true; first | rfl | kernel_rfl))
  all_goals ((first | apply ret_mk [some 14000] | apply end_mk [some 14000]); (· ((try simp only [CC, EE, QQ, seval]) <;> rfl)); (· ((try simp only [CC, EE, QQ, seval]) <;> repeat' (first | (with_reducible apply And.intro) | rfl | trivial | (exact ⟨_, rfl⟩) | (exact ⟨_, _, _, rfl⟩) | (simp [*, ]; done) | (simp [*, ]; omega) | (simp_all []; done) | (simp_all []; omega)))); all_goals (first | trivial | decide | ((try simp only [CC, EE, QQ, seval]) <;> repeat' (first | (with_reducible apply And.intro) | (exact ⟨_, rfl, rfl, rfl⟩) | (exact ⟨_, _, _, rfl⟩) | (exact ⟨_, rfl⟩) | trivial | rfl | (simp; done)))))
theorem sane15 : Does Try.prog 8 [] [] (B true) [] [] := by
  refine go_law15_sane rfl BxOK.nil fun cx hm0 => go_in 5000 ?_
  unfold ac_law15_sane rs_law15_sane
  have hf : fieldB 5 = true := fieldB_small 2 (by omega)
  have ha : TabOK ⟨1, 5, 1, [[1], [2]]⟩ 0 := ⟨hf, by decide, by decide, by decide, by decide, by decide, by decide, by simp [RowsOK, inE], by simp⟩
  have hb : TabOK ⟨2, 5, 1, [[1], [3]]⟩ 0 := ⟨hf, by decide, by decide, by decide, by decide, by decide, by decide, by simp [RowsOK, inE], by simp⟩
  obtain ⟨e1, e2⟩ := between_leads (ha.check (by omega)) (hb.check (by omega)) rfl rfl (by decide)
  have e3 := (e2.apply (ha.check (by omega)) rfl rfl).2
  have hd : diffGo [[1], [2]] 0 [[1], [3]] = [⟨1, [3]⟩] := by decide
  have hlen : ((([[1], [3]] : List (List Int)).length : Nat) : Int) = 2 := rfl
  simp only [hd] at e1 e3
  rw [hlen] at e1 e3
  have d1 := between ⟨1, 5, 1, [[1], [2]]⟩ ⟨2, 5, 1, [[1], [3]]⟩ (by decide) ha.short (by decide) hb.short
  have d2 := apply ⟨1, 5, 1, [[1], [2]]⟩ ⟨1, 2, 2, [⟨1, [3]⟩]⟩ (by decide) ha.short (by decide) (by simp [ShortS])
  rw [e1] at d1
  rw [e3] at d2
  have d3 := r14same ⟨2, 5, 1, [[1], [3]]⟩ ⟨2, 5, 1, [[1], [3]]⟩ (by decide) (by decide) hb.short hb.short
  have hs : sameT ⟨2, 5, 1, [[1], [3]]⟩ ⟨2, 5, 1, [[1], [3]]⟩ = true := by decide
  rw [hs] at d3
  repeat' (first | simp only [↓GE, PL, PP, EE, QQ, seval, eR, eSet, eI, List.length_cons] | (simp (disch := omega) only [IntWalk.i64_in]) | (refine go_brD (fun h => ?_) (fun h => ?_)) | (refine go_gsD (by ((try simp only [EE, QQ, seval]) <;> rfl)) (fun h => ?_) (fun h => ?_)) | (refine go_br (fun h => ?_) (fun h => ?_)) | (refine go_gs (by ((try simp only [EE, QQ, seval]) <;> rfl)) (fun h => ?_) (fun h => ?_)) | (apply go_call 5000 (d1) rfl rfl; (· ((try simp only [CC, EE, QQ, seval]) <;> (first | rfl | ((repeat constructor); done)))); (· exact CallForm.news rfl rfl); (· ((try simp only [CC, EE, QQ, seval]) <;> (first | rfl | ((repeat constructor); done)))); (· ((try simp only [CC, EE, QQ, seval]) <;> (first | rfl | ((repeat constructor); done))))) | (apply go_call 5000 (d2) rfl rfl; (· ((try simp only [CC, EE, QQ, seval]) <;> (first | rfl | ((repeat constructor); done)))); (· exact CallForm.news rfl rfl); (· ((try simp only [CC, EE, QQ, seval]) <;> (first | rfl | ((repeat constructor); done)))); (· ((try simp only [CC, EE, QQ, seval]) <;> (first | rfl | ((repeat constructor); done))))) | (apply go_call 5000 (d3) rfl rfl; (· ((try simp only [CC, EE, QQ, seval]) <;> (first | rfl | ((repeat constructor); done)))); (· exact CallForm.plain rfl); (· ((try simp only [CC, EE, QQ, seval]) <;> (first | rfl | ((repeat constructor); done)))); (· ((try simp only [CC, EE, QQ, seval]) <;> (first | rfl | ((repeat constructor); done))))) | (with_reducible apply And.intro) | (with_reducible exact trivial) | omega | (simp only [List.length_map, List.length_cons, List.length_nil] at *; omega) | (show _ = true; first | rfl | kernel_rfl))
  all_goals ((first | apply ret_mk [] | apply end_mk []); (· ((try simp only [CC, EE, QQ, seval]) <;> rfl)); (· ((try simp only [CC, EE, QQ, seval]) <;> repeat' (first | (with_reducible apply And.intro) | rfl | trivial | (exact ⟨_, rfl⟩) | (exact ⟨_, _, _, rfl⟩) | (simp [*, ]; done) | (simp [*, ]; omega) | (simp_all []; done) | (simp_all []; omega)))); all_goals (first | trivial | decide | ((try simp only [CC, EE, QQ, seval]) <;> repeat' (first | (with_reducible apply And.intro) | (exact ⟨_, rfl, rfl, rfl⟩) | (exact ⟨_, _, _, rfl⟩) | (exact ⟨_, rfl⟩) | trivial | rfl | (simp; done)))))
end Go.Proofs.Ytpliidhbfjjofaa.Sim
