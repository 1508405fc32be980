/- UpdateDigests, walked. -/
import Derived.Test.YtilkjcobkdjlkaaUpG
import Derived.Test.YtilkjcobkdjlkaaUhT
namespace Go.Proofs.Ytilkjcobkdjlkaa.Sim
open Go
set_option maxRecDepth 100000
set_option maxHeartbeats 8000000
set_option linter.unusedVariables false
set_option linter.unusedSimpArgs false
attribute [local irreducible] Go Mean
theorem lawDigests (s : List UInt8) (hs : s.length ≤ 140737488355328) : Does Try.prog 8 [.d (dBytes s)] [] (B true) [] [] := by
  refine go_law37_UpdateDigests rfl BxOK.nil fun cx hm0 => go_in 5000 ?_
  unfold ac_law37_UpdateDigests rs_law37_UpdateDigests
  generalize hL : s.take 300 = l
  have hl : l.length ≤ 140737488355328 := by rw [← hL, List.length_take]; omega
  have e0 := dice s hs
  rw [hL] at e0
  have d1 := (dpublisher l hl 0).nm1 18000 0 (by omega) rfl rfl rfl rfl rfl
  have hok := pubG_ok l 0
  generalize (pubG l 0).2 = k1 at *
  generalize (pubG l 0).1 = ts at *
  have hV := hok.valid
  have h1 := hV.1
  have hlen := hok.len
  have hT := hV.okTs
  have hs0 := getD_map eTab [] noTab ts 0 (by omega)
  have h00 : 0 < ts.length := by omega
  have o0 := hT.get h00
  have c0 := (hV.2.2 0 h00).1
  have e1 := r14digests (ts.getD 0 noTab) (by have := o0.1; omega) o0.2
  rw [r14digF, if_neg (fun h => h c0)] at e1
  repeat' (first | simp (maxSteps := 9999999) only [↓GE, PL, PP, EE, QQ, seval, hs0, h00, eTab, List.length_map] | (simp (disch := omega) only [IntWalk.i64_in]) | (refine go_brD (fun h => ?_) (fun h => ?_)) | (refine go_gsD (by ((try simp only [EE, QQ, seval]) <;> rfl)) (fun h => ?_) (fun h => ?_)) | (refine go_br (fun h => ?_) (fun h => ?_)) | (refine go_gs (by ((try simp only [EE, QQ, seval]) <;> rfl)) (fun h => ?_) (fun h => ?_)) | (apply go_call 5000 (sane37) rfl rfl; (· ((try simp only [CC, LL, NM, EE, QQ, seval]) <;> (first | rfl | ((repeat constructor); done)))); (· exact CallForm.plain rfl); (· ((try simp only [CC, LL, NM, EE, QQ, seval]) <;> (first | rfl | ((repeat constructor); done)))); (· ((try simp only [CC, LL, NM, EE, QQ, seval]) <;> (first | rfl | ((repeat constructor); done))))) | (apply go_call 5000 (e0) rfl rfl; (· ((try simp only [CC, LL, NM, EE, QQ, seval]) <;> (first | rfl | ((repeat constructor); done)))); (· exact CallForm.news rfl rfl); (· ((try simp only [CC, LL, NM, EE, QQ, seval]) <;> (first | rfl | ((repeat constructor); done)))); (· ((try simp only [CC, LL, NM, EE, QQ, seval]) <;> (first | rfl | ((repeat constructor); done))))) | (apply go_call 5000 (d1) rfl rfl; (· ((try simp only [CC, LL, NM, EE, QQ, seval]) <;> (first | rfl | ((repeat constructor); done)))); (· exact CallForm.lent (by (try simp only [CC, LL, NM, EE, QQ, seval]); repeat' (first | trivial | (with_reducible rfl) | omega | (with_reducible apply And.intro) | rfl)) rfl rfl); (· ((try simp only [CC, LL, NM, EE, QQ, seval]) <;> (first | rfl | ((repeat constructor); done)))); (· ((try simp only [CC, LL, NM, EE, QQ, seval]) <;> (first | rfl | ((repeat constructor); done))))) | (apply go_call 5000 (e1) rfl rfl; (· ((try simp only [CC, LL, NM, EE, QQ, seval]) <;> (first | rfl | ((repeat constructor); done)))); (· exact CallForm.news rfl rfl); (· ((try simp only [CC, LL, NM, EE, QQ, seval]) <;> (first | rfl | ((repeat constructor); done)))); (· ((try simp only [CC, LL, NM, EE, QQ, seval]) <;> (first | rfl | ((repeat constructor); done))))) | (with_reducible apply And.intro) | (with_reducible exact trivial) | omega | (simp only [List.length_map, List.length_cons, List.length_nil] at *; omega) | (show _ = true; first | rfl | kernel_rfl))
  refine go_loopz 5000 hm0 (ι := {q : Nat × List Int // q.1 < ts.length ∧ q.2 = (ts.getD q.1 noTab).rows.map rowF}) (fun i => [(3, .bp 3 0 0), (4, .d (dInts i.1.2)), (6, I i.1.1)]) (fun i => [(3, .box 0 [.d (dTabs ts)])]) (fun i => ts.length - i.1.1) [.og 25000 0] [] ⟨(0, (ts.getD 0 noTab).rows.map rowF), h00, rfl⟩ ?_ ?_
  · simp only [GeZ]; (simp only [GeS]; refine ⟨?_, ?_, ?_, ?_⟩; all_goals (repeat' (first | trivial | (with_reducible rfl) | simp only [CC, LL, EE, QQ, seval] | (with_reducible apply And.intro) | rfl | (refine ⟨_, rfl, ?_⟩) | (simp; done) | omega)))
  · rintro ⟨⟨i, own⟩, hi, hown⟩
    simp only at hi hown ⊢
    have w1 : IntKind.i64.wrap ((i : Int) + 1) = ((i + 1 : Nat) : Int) := by rw [show (i : Int) + 1 = ((i + 1 : Nat) : Int) by omega]; exact IntWalk.i64_in _ (by omega)
    have hs1 := getD_map eTab [] noTab ts i hi
    by_cases hi2 : i + 1 < ts.length
    · have q : decide (((i + 1 : Nat) : Int) < (ts.length : Int)) = true := decide_eq_true (by omega)
      have hs2 := getD_map eTab [] noTab ts (i + 1) hi2
      have a1 := hV.2.2 i hi
      have a2 := hV.2.2 (i + 1) hi2
      obtain ⟨b1, b2, b3, b4, b5⟩ := hV.btw (show i < i + 1 by omega) hi2
      have hbt : btwP ts (ts.getD i noTab).num (ts.getD (i + 1) noTab).num = betweenF (ts.getD i noTab) (ts.getD (i + 1) noTab) := by
        rw [btwP, hV.find hi2, hV.find hi, if_neg (by simp), if_neg (by simp)]
      obtain ⟨l1, l2⟩ := between_leads a1.1 a2.1 (a1.2.1.trans a2.2.1.symm) (a1.2.2.1.trans a2.2.2.1.symm) (hV.lt (show i < i + 1 by omega) hi2)
      have l3 := l2.digests a1.1
      have hc : (btwP ts (ts.getD i noTab).num (ts.getD (i + 1) noTab).num).1 = ⟨(ts.getD i noTab).num, (ts.getD (i + 1) noTab).num, (ts.getD (i + 1) noTab).rows.length, diffGo (ts.getD i noTab).rows 0 (ts.getD (i + 1) noTab).rows⟩ := by rw [hbt, l1]
      rw [← hc, ← hown] at l3
      have e2 := ubetween ts (ts.getD i noTab).num (ts.getD (i + 1) noTab).num hT
      rw [b1] at e2
      have o1 := hT.get hi
      have o2 := hT.get hi2
      have hol : own.length ≤ 1000000 := by rw [hown, List.length_map]; exact o1.1
      have e3 := r15digests own (btwP ts (ts.getD i noTab).num (ts.getD (i + 1) noTab).num).1 (by omega) (by omega) b5
      rw [l3] at e3
      obtain ⟨g1, g2⟩ := holds_rows a2.1
      have e4 := r14head (ts.getD (i + 1) noTab) (by have := o2.1; omega) o2.2
      have e5 := r14holds (headF (ts.getD (i + 1) noTab)).1 ((ts.getD (i + 1) noTab).rows.map rowF) (by rw [List.length_map]; have := o2.1; omega)
      rw [g2] at e5
      have g3 : (headF (ts.getD (i + 1) noTab)).2 = 0 := by rw [g1]
      rw [g3] at e4
      clear hbt l1 l2 l3 hc g1 g2 g3 hown b3
      obtain ⟨nx, hNx⟩ : ∃ nx, nx = (ts.getD (i + 1) noTab).rows.map rowF := ⟨_, rfl⟩
      rw [← hNx] at e3 e5
      generalize (btwP ts (ts.getD i noTab).num (ts.getD (i + 1) noTab).num).1 = C at *
      generalize (headF (ts.getD (i + 1) noTab)).1 = hd at *
      generalize hU : ts.getD (i + 1) noTab = u at *
      generalize ts.getD i noTab = t at *
      repeat' (first | simp (maxSteps := 9999999) only [↓GE, PL, PP, EE, QQ, seval, w1, q, hs1, hs2, hi, hi2, eTab, List.length_map] | (simp (disch := omega) only [IntWalk.i64_in]) | (refine go_brD (fun h => ?_) (fun h => ?_)) | (refine go_gsD (by ((try simp only [EE, QQ, seval]) <;> rfl)) (fun h => ?_) (fun h => ?_)) | (refine go_br (fun h => ?_) (fun h => ?_)) | (refine go_gs (by ((try simp only [EE, QQ, seval]) <;> rfl)) (fun h => ?_) (fun h => ?_)) | (apply go_call 5000 (e2) rfl rfl; (· ((try simp only [CC, LL, NM, EE, QQ, seval]) <;> (first | rfl | ((repeat constructor); done)))); (· exact CallForm.plain rfl); (· ((try simp only [CC, LL, NM, EE, QQ, seval]) <;> (first | rfl | ((repeat constructor); done)))); (· ((try simp only [CC, LL, NM, EE, QQ, seval]) <;> (first | rfl | ((repeat constructor); done))))) | (apply go_call 5000 (e3) rfl rfl; (· ((try simp only [CC, LL, NM, EE, QQ, seval]) <;> (first | rfl | ((repeat constructor); done)))); (· exact CallForm.news rfl rfl); (· ((try simp only [CC, LL, NM, EE, QQ, seval]) <;> (first | rfl | ((repeat constructor); done)))); (· ((try simp only [CC, LL, NM, EE, QQ, seval]) <;> (first | rfl | ((repeat constructor); done))))) | (apply go_call 5000 (e4) rfl rfl; (· ((try simp only [CC, LL, NM, EE, QQ, seval]) <;> (first | rfl | ((repeat constructor); done)))); (· exact CallForm.plain rfl); (· ((try simp only [CC, LL, NM, EE, QQ, seval]) <;> (first | rfl | ((repeat constructor); done)))); (· ((try simp only [CC, LL, NM, EE, QQ, seval]) <;> (first | rfl | ((repeat constructor); done))))) | (apply go_call 5000 (e5) rfl rfl; (· ((try simp only [CC, LL, NM, EE, QQ, seval]) <;> (first | rfl | ((repeat constructor); done)))); (· exact CallForm.plain rfl); (· ((try simp only [CC, LL, NM, EE, QQ, seval]) <;> (first | rfl | ((repeat constructor); done)))); (· ((try simp only [CC, LL, NM, EE, QQ, seval]) <;> (first | rfl | ((repeat constructor); done))))) | (with_reducible apply And.intro) | (with_reducible exact trivial) | omega | (simp only [List.length_map, List.length_cons, List.length_nil] at *; omega) | (show _ = true; first | rfl | kernel_rfl))
      refine ⟨[.og 59000 0], [], ⟨(i + 1, nx), hi2, ?_⟩, ?_, ?_⟩
      · simp only; rw [hU]; exact hNx
      · simp only [GeZ]; (simp only [GeS]; refine ⟨?_, ?_, ?_, ?_⟩; all_goals (repeat' (first | trivial | (with_reducible rfl) | simp only [CC, LL, EE, QQ, seval] | (with_reducible apply And.intro) | rfl | (refine ⟨_, rfl, ?_⟩) | (simp; done) | omega)))
      · simp only; omega
    · have q : decide (((i + 1 : Nat) : Int) < (ts.length : Int)) = false := decide_eq_false (by omega)
      repeat' (first | simp (maxSteps := 9999999) only [↓GE, PL, PP, EE, QQ, seval, w1, q, List.length_map] | (simp (disch := omega) only [IntWalk.i64_in]) | (refine go_brD (fun h => ?_) (fun h => ?_)) | (refine go_gsD (by ((try simp only [EE, QQ, seval]) <;> rfl)) (fun h => ?_) (fun h => ?_)) | (refine go_br (fun h => ?_) (fun h => ?_)) | (refine go_gs (by ((try simp only [EE, QQ, seval]) <;> rfl)) (fun h => ?_) (fun h => ?_)) | (with_reducible apply And.intro) | (with_reducible exact trivial) | omega | (simp only [List.length_map, List.length_cons, List.length_nil] at *; omega) | (show _ = true; first | rfl | kernel_rfl))
      all_goals ((first | apply ret_mk [] | apply end_mk []); (· ((try simp only [CC, LL, EE, QQ, seval]) <;> rfl)); (· ((try simp only [CC, LL, EE, QQ, seval]) <;> repeat' (first | (with_reducible apply And.intro) | rfl | trivial | (exact ⟨_, rfl⟩) | (exact ⟨_, _, _, rfl⟩) | (simp [*, ]; done) | (simp [*, ]; omega) | (simp_all []; done) | (simp_all []; omega)))); all_goals (first | trivial | decide | ((try simp only [CC, LL, EE, QQ, seval]) <;> repeat' (first | (with_reducible apply And.intro) | (exact ⟨_, rfl, rfl, rfl⟩) | (exact ⟨_, _, _, rfl⟩) | (exact ⟨_, rfl⟩) | trivial | rfl | (simp; done)))))
end Go.Proofs.Ytilkjcobkdjlkaa.Sim
