/- Changes: two as one, and digests. -/
import Derived.Test.YtpliidhbfjjofaaChgH
import Derived.Test.YtpliidhbfjjofaaChgR
namespace Go.Proofs.Ytpliidhbfjjofaa.Sim
open Go
set_option maxRecDepth 100000
set_option maxHeartbeats 4000000
set_option linter.unusedVariables false
set_option linter.unusedSimpArgs false
attribute [local irreducible] Go Mean
def joinF (a b : PChg) : PChg × Int := if formF a = false ∨ formF b = false then (noChg, 2) else if a.tt ≠ b.fr then (noChg, 17) else (⟨a.fr, b.tt, b.count, mergeF b.count a.sets b.sets⟩, 0)
theorem formF_len {c : PChg} (h : formF c = true) : c.sets.length ≤ 1024 := by
  obtain ⟨_, _, _, h0, h1, h2⟩ := formF_ok h
  by_cases hc : (-1 : Int) < c.count
  · have := formGo_len h2 hc
    omega
  · omega
theorem mergeF_step1 {count : Int} {x : PSet} {xs bs : List PSet} (h : ∀ y r, bs = y :: r → x.idx < y.idx) : mergeF count (x :: xs) bs = if x.idx < count then x :: mergeF count xs bs else mergeF count xs bs := by
  cases bs with
  | nil => rw [mergeF]
  | cons y r => rw [mergeF, if_pos (h y r rfl)]
theorem mergeF_step2 {count : Int} {x y : PSet} {xs bs : List PSet} (h : ¬x.idx < y.idx) : mergeF count (x :: xs) (y :: bs) = if x.idx = y.idx then y :: mergeF count xs bs else y :: mergeF count (x :: xs) bs := by
  rw [mergeF, if_neg h]
theorem mergeF_nil {count : Int} {bs : List PSet} : mergeF count [] bs = bs := by rw [mergeF]
theorem join (a b : PChg) (ha : a.sets.length ≤ 17592186044416) (hsa : ShortS a.sets) (hb : b.sets.length ≤ 17592186044416) (hsb : ShortS b.sets) : Does Try.prog 25 [vChg a, vChg b] [] (vC (joinF a b)) [] [oC (joinF a b)] := by
  refine go_change_Join rfl BxOK.nil fun cx hm0 => go_in 5000 ?_
  unfold ac_change_Join rs_change_Join
  by_cases h1 : formF a = true
  case neg =>
    have h1 : formF a = false := by simpa using h1
    have hv : joinF a b = (noChg, 2) := by simp [joinF, h1]
    rw [hv]
    repeat' (first | simp only [↓GE, PL, PP, EE, QQ, seval, h1] | (simp (disch := omega) only [IntWalk.i64_in]) | (refine go_brD (fun h => ?_) (fun h => ?_)) | (refine go_gsD (by ((try simp only [EE, QQ, seval]) <;> rfl)) (fun h => ?_) (fun h => ?_)) | (refine go_br (fun h => ?_) (fun h => ?_)) | (refine go_gs (by ((try simp only [EE, QQ, seval]) <;> rfl)) (fun h => ?_) (fun h => ?_)) | (apply go_call 5000 (formed a ha) rfl rfl; (· ((try simp only [CC, EE, QQ, seval]) <;> (first | rfl | ((repeat constructor); done)))); (· exact CallForm.plain rfl); (· ((try simp only [CC, EE, QQ, seval]) <;> (first | rfl | ((repeat constructor); done)))); (· ((try simp only [CC, EE, QQ, seval]) <;> (first | rfl | ((repeat constructor); done))))) | (with_reducible apply And.intro) | (with_reducible exact trivial) | omega | (simp only [List.length_map, List.length_cons, List.length_nil] at *; omega) | (show _ = true; first | rfl | kernel_rfl))
    all_goals ((first | apply ret_mk [none] | apply end_mk [none]); (· ((try simp only [CC, EE, QQ, seval]) <;> rfl)); (· ((try simp only [CC, EE, QQ, seval]) <;> repeat' (first | (with_reducible apply And.intro) | rfl | trivial | (exact ⟨_, rfl⟩) | (exact ⟨_, _, _, rfl⟩) | (simp [*, noChg]; done) | (simp [*, noChg]; omega) | (simp_all [noChg]; done) | (simp_all [noChg]; omega)))); all_goals (first | trivial | decide | ((try simp only [CC, EE, QQ, seval]) <;> repeat' (first | (with_reducible apply And.intro) | (exact ⟨_, rfl, rfl, rfl⟩) | (exact ⟨_, _, _, rfl⟩) | (exact ⟨_, rfl⟩) | trivial | rfl | (simp; done)))))
  by_cases h2 : formF b = true
  case neg =>
    have h2 : formF b = false := by simpa using h2
    have hv : joinF a b = (noChg, 2) := by simp [joinF, h2]
    rw [hv]
    repeat' (first | simp only [↓GE, PL, PP, EE, QQ, seval, h1, h2] | (simp (disch := omega) only [IntWalk.i64_in]) | (refine go_brD (fun h => ?_) (fun h => ?_)) | (refine go_gsD (by ((try simp only [EE, QQ, seval]) <;> rfl)) (fun h => ?_) (fun h => ?_)) | (refine go_br (fun h => ?_) (fun h => ?_)) | (refine go_gs (by ((try simp only [EE, QQ, seval]) <;> rfl)) (fun h => ?_) (fun h => ?_)) | (apply go_call 5000 (formed a ha) rfl rfl; (· ((try simp only [CC, EE, QQ, seval]) <;> (first | rfl | ((repeat constructor); done)))); (· exact CallForm.plain rfl); (· ((try simp only [CC, EE, QQ, seval]) <;> (first | rfl | ((repeat constructor); done)))); (· ((try simp only [CC, EE, QQ, seval]) <;> (first | rfl | ((repeat constructor); done))))) | (apply go_call 5000 (formed b hb) rfl rfl; (· ((try simp only [CC, EE, QQ, seval]) <;> (first | rfl | ((repeat constructor); done)))); (· exact CallForm.plain rfl); (· ((try simp only [CC, EE, QQ, seval]) <;> (first | rfl | ((repeat constructor); done)))); (· ((try simp only [CC, EE, QQ, seval]) <;> (first | rfl | ((repeat constructor); done))))) | (with_reducible apply And.intro) | (with_reducible exact trivial) | omega | (simp only [List.length_map, List.length_cons, List.length_nil] at *; omega) | (show _ = true; first | rfl | kernel_rfl))
    all_goals ((first | apply ret_mk [none] | apply end_mk [none]); (· ((try simp only [CC, EE, QQ, seval]) <;> rfl)); (· ((try simp only [CC, EE, QQ, seval]) <;> repeat' (first | (with_reducible apply And.intro) | rfl | trivial | (exact ⟨_, rfl⟩) | (exact ⟨_, _, _, rfl⟩) | (simp [*, noChg]; done) | (simp [*, noChg]; omega) | (simp_all [noChg]; done) | (simp_all [noChg]; omega)))); all_goals (first | trivial | decide | ((try simp only [CC, EE, QQ, seval]) <;> repeat' (first | (with_reducible apply And.intro) | (exact ⟨_, rfl, rfl, rfl⟩) | (exact ⟨_, _, _, rfl⟩) | (exact ⟨_, rfl⟩) | trivial | rfl | (simp; done)))))
  by_cases h3 : a.tt = b.fr
  case neg =>
    have hv : joinF a b = (noChg, 17) := by simp [joinF, h1, h2, h3]
    rw [hv]
    have h3' : (a.tt != b.fr) = true := by simpa using h3
    repeat' (first | simp only [↓GE, PL, PP, EE, QQ, seval, h1, h2, h3'] | (simp (disch := omega) only [IntWalk.i64_in]) | (refine go_brD (fun h => ?_) (fun h => ?_)) | (refine go_gsD (by ((try simp only [EE, QQ, seval]) <;> rfl)) (fun h => ?_) (fun h => ?_)) | (refine go_br (fun h => ?_) (fun h => ?_)) | (refine go_gs (by ((try simp only [EE, QQ, seval]) <;> rfl)) (fun h => ?_) (fun h => ?_)) | (apply go_call 5000 (formed a ha) rfl rfl; (· ((try simp only [CC, EE, QQ, seval]) <;> (first | rfl | ((repeat constructor); done)))); (· exact CallForm.plain rfl); (· ((try simp only [CC, EE, QQ, seval]) <;> (first | rfl | ((repeat constructor); done)))); (· ((try simp only [CC, EE, QQ, seval]) <;> (first | rfl | ((repeat constructor); done))))) | (apply go_call 5000 (formed b hb) rfl rfl; (· ((try simp only [CC, EE, QQ, seval]) <;> (first | rfl | ((repeat constructor); done)))); (· exact CallForm.plain rfl); (· ((try simp only [CC, EE, QQ, seval]) <;> (first | rfl | ((repeat constructor); done)))); (· ((try simp only [CC, EE, QQ, seval]) <;> (first | rfl | ((repeat constructor); done))))) | (with_reducible apply And.intro) | (with_reducible exact trivial) | omega | (simp only [List.length_map, List.length_cons, List.length_nil] at *; omega) | (show _ = true; first | rfl | kernel_rfl))
    all_goals ((first | apply ret_mk [none] | apply end_mk [none]); (· ((try simp only [CC, EE, QQ, seval]) <;> rfl)); (· ((try simp only [CC, EE, QQ, seval]) <;> repeat' (first | (with_reducible apply And.intro) | rfl | trivial | (exact ⟨_, rfl⟩) | (exact ⟨_, _, _, rfl⟩) | (simp [*, noChg]; done) | (simp [*, noChg]; omega) | (simp_all [noChg]; done) | (simp_all [noChg]; omega)))); all_goals (first | trivial | decide | ((try simp only [CC, EE, QQ, seval]) <;> repeat' (first | (with_reducible apply And.intro) | (exact ⟨_, rfl, rfl, rfl⟩) | (exact ⟨_, _, _, rfl⟩) | (exact ⟨_, rfl⟩) | trivial | rfl | (simp; done)))))
  have hv : joinF a b = (⟨a.fr, b.tt, b.count, mergeF b.count a.sets b.sets⟩, 0) := by simp [joinF, h1, h2, h3]
  rw [hv]
  have hla := formF_len h1
  have hlb := formF_len h2
  have h3' : (a.tt != b.fr) = false := by simpa using h3
  repeat' (first | simp only [↓GE, PL, PP, EE, QQ, seval, h1, h2, h3', List.length_map] | (simp (disch := omega) only [IntWalk.i64_in]) | (refine go_brD (fun h => ?_) (fun h => ?_)) | (refine go_gsD (by ((try simp only [EE, QQ, seval]) <;> rfl)) (fun h => ?_) (fun h => ?_)) | (refine go_br (fun h => ?_) (fun h => ?_)) | (refine go_gs (by ((try simp only [EE, QQ, seval]) <;> rfl)) (fun h => ?_) (fun h => ?_)) | (apply go_call 5000 (formed a ha) rfl rfl; (· ((try simp only [CC, EE, QQ, seval]) <;> (first | rfl | ((repeat constructor); done)))); (· exact CallForm.plain rfl); (· ((try simp only [CC, EE, QQ, seval]) <;> (first | rfl | ((repeat constructor); done)))); (· ((try simp only [CC, EE, QQ, seval]) <;> (first | rfl | ((repeat constructor); done))))) | (apply go_call 5000 (formed b hb) rfl rfl; (· ((try simp only [CC, EE, QQ, seval]) <;> (first | rfl | ((repeat constructor); done)))); (· exact CallForm.plain rfl); (· ((try simp only [CC, EE, QQ, seval]) <;> (first | rfl | ((repeat constructor); done)))); (· ((try simp only [CC, EE, QQ, seval]) <;> (first | rfl | ((repeat constructor); done))))) | (with_reducible apply And.intro) | (with_reducible exact trivial) | omega | (simp only [List.length_map, List.length_cons, List.length_nil] at *; omega) | (show _ = true; first | rfl | kernel_rfl))
  refine go_loop 5000 hm0 (ι := {p : Nat × Nat × Nat × List PSet // p.1 ≤ a.sets.length ∧ p.2.1 ≤ b.sets.length ∧ p.2.2.2.length ≤ p.1 + p.2.1 ∧ mergeF b.count a.sets b.sets = p.2.2.2 ++ mergeF b.count (a.sets.drop p.1) (b.sets.drop p.2.1)}) (fun i => [(2, .bp 2 0 0), (3, .bp 3 0 0), (4, .bp 4 0 0), (6, .bp 6 0 0), (7, I i.1.1), (8, I i.1.2.1)]) (fun i => [(2, .box 0 [I a.fr, I a.tt, I a.count, .d (dSets a.sets)]), (3, .box 0 [I b.fr, I b.tt, I b.count, .d (dSets b.sets)]), (4, .box 0 [I 0, I 0, I 0, .nl 2]), (74, .arr i.1.2.2.1 2 true (i.1.2.2.2.map eSet)), (6, .box 0 [I a.fr, I b.tt, I b.count, .og 74 i.1.2.2.1])]) (fun i => a.sets.length - i.1.1 + (b.sets.length - i.1.2.1)) [74] ⟨(0, 0, 0, []), by simp⟩ ?_ ?_
  · (simp only [GeS]; refine ⟨?_, ?_, ?_, ?_⟩; all_goals (repeat' (first | trivial | (with_reducible rfl) | simp only [CC, EE, QQ, seval] | (with_reducible apply And.intro) | rfl | (refine ⟨_, rfl, ?_⟩) | (simp; done) | omega)))
  · rintro ⟨⟨i, k, v, acc⟩, hi, hk, hl, hm⟩
    simp only at hi hk hl hm
    have hend : ∀ i', i' = a.sets.length → a.sets.drop i' = [] := fun i' e => by rw [e, List.drop_length]
    have hendb : ∀ k', k' = b.sets.length → b.sets.drop k' = [] := fun i' e => by rw [e, List.drop_length]
    by_cases hia : i < a.sets.length
    · have hs1 := getD_map eSet [] noSet a.sets i hia
      have hr1 := hsa _ (mem_getD noSet a.sets i hia)
      have hda := drop_get noSet a.sets i hia
      generalize a.sets.getD i noSet = x at hs1 hr1 hda
      have qa : decide ((i : Int) < (a.sets.length : Int)) = true := by simpa using hia
      by_cases hkb : k < b.sets.length
      · have hs2 := getD_map eSet [] noSet b.sets k hkb
        have hr2 := hsb _ (mem_getD noSet b.sets k hkb)
        have hdb := drop_get noSet b.sets k hkb
        generalize b.sets.getD k noSet = y at hs2 hr2 hdb
        have qb : ((k : Int) == (b.sets.length : Int)) = false := by simp; omega
        by_cases hxy : x.idx < y.idx
        · have e := mergeF_step1 (count := b.count) (x := x) (xs := a.sets.drop (i + 1)) (bs := b.sets.drop k) (fun _ _ e => by rw [hdb] at e; cases e; exact hxy)
          have q1 : decide (x.idx < y.idx) = true := by simpa using hxy
          by_cases hc : x.idx < b.count
          · have q2 : decide (x.idx < b.count) = true := by simpa using hc
            repeat' (first | simp only [↓GE, PL, PP, EE, QQ, seval, hs1, hs2, qa, qb, q1, q2, eSet, List.length_map] | (simp (disch := omega) only [IntWalk.i64_in]) | (refine go_brD (fun h => ?_) (fun h => ?_)) | (refine go_gsD (by ((try simp only [EE, QQ, seval]) <;> rfl)) (fun h => ?_) (fun h => ?_)) | (refine go_br (fun h => ?_) (fun h => ?_)) | (refine go_gs (by ((try simp only [EE, QQ, seval]) <;> rfl)) (fun h => ?_) (fun h => ?_)) | (apply go_call 5000 (own _ hr1) rfl rfl; (· ((try simp only [CC, EE, QQ, seval]) <;> (first | rfl | ((repeat constructor); done)))); (· exact CallForm.news rfl rfl); (· ((try simp only [CC, EE, QQ, seval]) <;> (first | rfl | ((repeat constructor); done)))); (· ((try simp only [CC, EE, QQ, seval]) <;> (first | rfl | ((repeat constructor); done))))) | (with_reducible apply And.intro) | (with_reducible exact trivial) | omega | (simp only [List.length_map, List.length_cons, List.length_nil] at *; omega) | (show _ = true; first | rfl | kernel_rfl))
            refine ⟨⟨(i + 1, k, v + 1, acc ++ [x]), hia, hk, by simp; omega, by rw [hm, hda, e, if_pos hc]; simp⟩, ?_, by simp only; omega⟩
            (simp only [GeS]; refine ⟨?_, ?_, ?_, ?_⟩; all_goals (repeat' (first | trivial | (with_reducible rfl) | simp only [CC, EE, QQ, seval] | (with_reducible apply And.intro) | rfl | (refine ⟨_, rfl, ?_⟩) | (simp [eSet]; done) | omega)))
          · have q2 : decide (x.idx < b.count) = false := by simpa using hc
            repeat' (first | simp only [↓GE, PL, PP, EE, QQ, seval, hs1, hs2, qa, qb, q1, q2, eSet, List.length_map] | (simp (disch := omega) only [IntWalk.i64_in]) | (refine go_brD (fun h => ?_) (fun h => ?_)) | (refine go_gsD (by ((try simp only [EE, QQ, seval]) <;> rfl)) (fun h => ?_) (fun h => ?_)) | (refine go_br (fun h => ?_) (fun h => ?_)) | (refine go_gs (by ((try simp only [EE, QQ, seval]) <;> rfl)) (fun h => ?_) (fun h => ?_)) | (with_reducible apply And.intro) | (with_reducible exact trivial) | omega | (simp only [List.length_map, List.length_cons, List.length_nil] at *; omega) | (show _ = true; first | rfl | kernel_rfl))
            refine ⟨⟨(i + 1, k, v, acc), hia, hk, by simp only; omega, by rw [hm, hda, e, if_neg hc]⟩, ?_, by simp only; omega⟩
            (simp only [GeS]; refine ⟨?_, ?_, ?_, ?_⟩; all_goals (repeat' (first | trivial | (with_reducible rfl) | simp only [CC, EE, QQ, seval] | (with_reducible apply And.intro) | rfl | (refine ⟨_, rfl, ?_⟩) | (simp; done) | omega)))
        · have q1 : decide (x.idx < y.idx) = false := by simpa using hxy
          have e := mergeF_step2 (count := b.count) (xs := a.sets.drop (i + 1)) (bs := b.sets.drop (k + 1)) hxy
          by_cases hc : x.idx = y.idx
          · have q2 : (x.idx == y.idx) = true := by simpa using hc
            repeat' (first | simp only [↓GE, PL, PP, EE, QQ, seval, hs1, hs2, qa, qb, q1, q2, eSet, List.length_map] | (simp (disch := omega) only [IntWalk.i64_in]) | (refine go_brD (fun h => ?_) (fun h => ?_)) | (refine go_gsD (by ((try simp only [EE, QQ, seval]) <;> rfl)) (fun h => ?_) (fun h => ?_)) | (refine go_br (fun h => ?_) (fun h => ?_)) | (refine go_gs (by ((try simp only [EE, QQ, seval]) <;> rfl)) (fun h => ?_) (fun h => ?_)) | (apply go_call 5000 (own _ hr2) rfl rfl; (· ((try simp only [CC, EE, QQ, seval]) <;> (first | rfl | ((repeat constructor); done)))); (· exact CallForm.news rfl rfl); (· ((try simp only [CC, EE, QQ, seval]) <;> (first | rfl | ((repeat constructor); done)))); (· ((try simp only [CC, EE, QQ, seval]) <;> (first | rfl | ((repeat constructor); done))))) | (with_reducible apply And.intro) | (with_reducible exact trivial) | omega | (simp only [List.length_map, List.length_cons, List.length_nil] at *; omega) | (show _ = true; first | rfl | kernel_rfl))
            refine ⟨⟨(i + 1, k + 1, v + 1, acc ++ [y]), hia, hkb, by simp; omega, by rw [hm, hda, hdb, e, if_pos hc]; simp⟩, ?_, by simp only; omega⟩
            (simp only [GeS]; refine ⟨?_, ?_, ?_, ?_⟩; all_goals (repeat' (first | trivial | (with_reducible rfl) | simp only [CC, EE, QQ, seval] | (with_reducible apply And.intro) | rfl | (refine ⟨_, rfl, ?_⟩) | (simp [eSet]; done) | omega)))
          · have q2 : (x.idx == y.idx) = false := by simpa using hc
            repeat' (first | simp only [↓GE, PL, PP, EE, QQ, seval, hs1, hs2, qa, qb, q1, q2, eSet, List.length_map] | (simp (disch := omega) only [IntWalk.i64_in]) | (refine go_brD (fun h => ?_) (fun h => ?_)) | (refine go_gsD (by ((try simp only [EE, QQ, seval]) <;> rfl)) (fun h => ?_) (fun h => ?_)) | (refine go_br (fun h => ?_) (fun h => ?_)) | (refine go_gs (by ((try simp only [EE, QQ, seval]) <;> rfl)) (fun h => ?_) (fun h => ?_)) | (apply go_call 5000 (own _ hr2) rfl rfl; (· ((try simp only [CC, EE, QQ, seval]) <;> (first | rfl | ((repeat constructor); done)))); (· exact CallForm.news rfl rfl); (· ((try simp only [CC, EE, QQ, seval]) <;> (first | rfl | ((repeat constructor); done)))); (· ((try simp only [CC, EE, QQ, seval]) <;> (first | rfl | ((repeat constructor); done))))) | (with_reducible apply And.intro) | (with_reducible exact trivial) | omega | (simp only [List.length_map, List.length_cons, List.length_nil] at *; omega) | (show _ = true; first | rfl | kernel_rfl))
            refine ⟨⟨(i, k + 1, v + 1, acc ++ [y]), hi, hkb, by simp; omega, by rw [hm, hda, hdb, e, if_neg hc]; simp⟩, ?_, by simp only; omega⟩
            (simp only [GeS]; refine ⟨?_, ?_, ?_, ?_⟩; all_goals (repeat' (first | trivial | (with_reducible rfl) | simp only [CC, EE, QQ, seval] | (with_reducible apply And.intro) | rfl | (refine ⟨_, rfl, ?_⟩) | (simp [eSet]; done) | omega)))
      · have qb : ((k : Int) == (b.sets.length : Int)) = true := by simp; omega
        have hdb := hendb k (by omega)
        have e := mergeF_step1 (count := b.count) (x := x) (xs := a.sets.drop (i + 1)) (bs := b.sets.drop k) (fun _ _ e => by rw [hdb] at e; cases e)
        by_cases hc : x.idx < b.count
        · have q2 : decide (x.idx < b.count) = true := by simpa using hc
          repeat' (first | simp only [↓GE, PL, PP, EE, QQ, seval, hs1, qa, qb, q2, eSet, List.length_map] | (simp (disch := omega) only [IntWalk.i64_in]) | (refine go_brD (fun h => ?_) (fun h => ?_)) | (refine go_gsD (by ((try simp only [EE, QQ, seval]) <;> rfl)) (fun h => ?_) (fun h => ?_)) | (refine go_br (fun h => ?_) (fun h => ?_)) | (refine go_gs (by ((try simp only [EE, QQ, seval]) <;> rfl)) (fun h => ?_) (fun h => ?_)) | (apply go_call 5000 (own _ hr1) rfl rfl; (· ((try simp only [CC, EE, QQ, seval]) <;> (first | rfl | ((repeat constructor); done)))); (· exact CallForm.news rfl rfl); (· ((try simp only [CC, EE, QQ, seval]) <;> (first | rfl | ((repeat constructor); done)))); (· ((try simp only [CC, EE, QQ, seval]) <;> (first | rfl | ((repeat constructor); done))))) | (with_reducible apply And.intro) | (with_reducible exact trivial) | omega | (simp only [List.length_map, List.length_cons, List.length_nil] at *; omega) | (show _ = true; first | rfl | kernel_rfl))
          refine ⟨⟨(i + 1, k, v + 1, acc ++ [x]), hia, hk, by simp; omega, by rw [hm, hda, e, if_pos hc]; simp⟩, ?_, by simp only; omega⟩
          (simp only [GeS]; refine ⟨?_, ?_, ?_, ?_⟩; all_goals (repeat' (first | trivial | (with_reducible rfl) | simp only [CC, EE, QQ, seval] | (with_reducible apply And.intro) | rfl | (refine ⟨_, rfl, ?_⟩) | (simp [eSet]; done) | omega)))
        · have q2 : decide (x.idx < b.count) = false := by simpa using hc
          repeat' (first | simp only [↓GE, PL, PP, EE, QQ, seval, hs1, qa, qb, q2, eSet, List.length_map] | (simp (disch := omega) only [IntWalk.i64_in]) | (refine go_brD (fun h => ?_) (fun h => ?_)) | (refine go_gsD (by ((try simp only [EE, QQ, seval]) <;> rfl)) (fun h => ?_) (fun h => ?_)) | (refine go_br (fun h => ?_) (fun h => ?_)) | (refine go_gs (by ((try simp only [EE, QQ, seval]) <;> rfl)) (fun h => ?_) (fun h => ?_)) | (with_reducible apply And.intro) | (with_reducible exact trivial) | omega | (simp only [List.length_map, List.length_cons, List.length_nil] at *; omega) | (show _ = true; first | rfl | kernel_rfl))
          refine ⟨⟨(i + 1, k, v, acc), hia, hk, by simp only; omega, by rw [hm, hda, e, if_neg hc]⟩, ?_, by simp only; omega⟩
          (simp only [GeS]; refine ⟨?_, ?_, ?_, ?_⟩; all_goals (repeat' (first | trivial | (with_reducible rfl) | simp only [CC, EE, QQ, seval] | (with_reducible apply And.intro) | rfl | (refine ⟨_, rfl, ?_⟩) | (simp; done) | omega)))
    · have qa : decide ((i : Int) < (a.sets.length : Int)) = false := by simpa using hia
      have hda := hend i (by omega)
      by_cases hkb : k < b.sets.length
      · have hs2 := getD_map eSet [] noSet b.sets k hkb
        have hr2 := hsb _ (mem_getD noSet b.sets k hkb)
        have hdb := drop_get noSet b.sets k hkb
        generalize b.sets.getD k noSet = y at hs2 hr2 hdb
        have qb : ((k : Int) == (b.sets.length : Int)) = false := by simp; omega
        repeat' (first | simp only [↓GE, PL, PP, EE, QQ, seval, hs2, qa, qb, eSet, List.length_map] | (simp (disch := omega) only [IntWalk.i64_in]) | (refine go_brD (fun h => ?_) (fun h => ?_)) | (refine go_gsD (by ((try simp only [EE, QQ, seval]) <;> rfl)) (fun h => ?_) (fun h => ?_)) | (refine go_br (fun h => ?_) (fun h => ?_)) | (refine go_gs (by ((try simp only [EE, QQ, seval]) <;> rfl)) (fun h => ?_) (fun h => ?_)) | (apply go_call 5000 (own _ hr2) rfl rfl; (· ((try simp only [CC, EE, QQ, seval]) <;> (first | rfl | ((repeat constructor); done)))); (· exact CallForm.news rfl rfl); (· ((try simp only [CC, EE, QQ, seval]) <;> (first | rfl | ((repeat constructor); done)))); (· ((try simp only [CC, EE, QQ, seval]) <;> (first | rfl | ((repeat constructor); done))))) | (with_reducible apply And.intro) | (with_reducible exact trivial) | omega | (simp only [List.length_map, List.length_cons, List.length_nil] at *; omega) | (show _ = true; first | rfl | kernel_rfl))
        refine ⟨⟨(i, k + 1, v + 1, acc ++ [y]), hi, hkb, by simp; omega, by rw [hm, hda, hdb, mergeF_nil, mergeF_nil]; simp⟩, ?_, by simp only; omega⟩
        (simp only [GeS]; refine ⟨?_, ?_, ?_, ?_⟩; all_goals (repeat' (first | trivial | (with_reducible rfl) | simp only [CC, EE, QQ, seval] | (with_reducible apply And.intro) | rfl | (refine ⟨_, rfl, ?_⟩) | (simp [eSet]; done) | omega)))
      · rw [hda, hendb k (by omega), mergeF_nil, List.append_nil] at hm
        subst hm
        repeat' (first | simp only [↓GE, PL, PP, EE, QQ, seval, qa] | (simp (disch := omega) only [IntWalk.i64_in]) | (refine go_brD (fun h => ?_) (fun h => ?_)) | (refine go_gsD (by ((try simp only [EE, QQ, seval]) <;> rfl)) (fun h => ?_) (fun h => ?_)) | (refine go_br (fun h => ?_) (fun h => ?_)) | (refine go_gs (by ((try simp only [EE, QQ, seval]) <;> rfl)) (fun h => ?_) (fun h => ?_)) | (with_reducible apply And.intro) | (with_reducible exact trivial) | omega | (simp only [List.length_map, List.length_cons, List.length_nil] at *; omega) | (show _ = true; first | rfl | kernel_rfl))
        all_goals ((first | apply ret_mk [some 74] | apply end_mk [some 74]); (· ((try simp only [CC, EE, QQ, seval]) <;> rfl)); (· ((try simp only [CC, EE, QQ, seval]) <;> repeat' (first | (with_reducible apply And.intro) | rfl | trivial | (exact ⟨_, rfl⟩) | (exact ⟨_, _, _, rfl⟩) | (simp [*, ]; done) | (simp [*, ]; omega) | (simp_all []; done) | (simp_all []; omega)))); all_goals (first | trivial | decide | ((try simp only [CC, EE, QQ, seval]) <;> repeat' (first | (with_reducible apply And.intro) | (exact ⟨_, rfl, rfl, rfl⟩) | (exact ⟨_, _, _, rfl⟩) | (exact ⟨_, rfl⟩) | trivial | rfl | (simp; done)))))
theorem r15join (a b : PChg) (ha : a.sets.length ≤ 17592186044416) (hsa : ShortS a.sets) (hb : b.sets.length ≤ 17592186044416) (hsb : ShortS b.sets) : Does Try.prog 33 [vChg a, vChg b] [] (vC (joinF a b)) [] [oC (joinF a b)] := by
  refine go_ref15_Join rfl BxOK.nil fun cx hm0 => go_in 5000 ?_
  unfold ac_ref15_Join rs_ref15_Join
  by_cases h1 : formF a = true
  case neg =>
    have h1 : formF a = false := by simpa using h1
    have hv : joinF a b = (noChg, 2) := by simp [joinF, h1]
    rw [hv]
    repeat' (first | simp only [↓GE, PL, PP, EE, QQ, seval, h1] | (simp (disch := omega) only [IntWalk.i64_in]) | (refine go_brD (fun h => ?_) (fun h => ?_)) | (refine go_gsD (by ((try simp only [EE, QQ, seval]) <;> rfl)) (fun h => ?_) (fun h => ?_)) | (refine go_br (fun h => ?_) (fun h => ?_)) | (refine go_gs (by ((try simp only [EE, QQ, seval]) <;> rfl)) (fun h => ?_) (fun h => ?_)) | (apply go_call 5000 (r15form a ha) rfl rfl; (· ((try simp only [CC, EE, QQ, seval]) <;> (first | rfl | ((repeat constructor); done)))); (· exact CallForm.plain rfl); (· ((try simp only [CC, EE, QQ, seval]) <;> (first | rfl | ((repeat constructor); done)))); (· ((try simp only [CC, EE, QQ, seval]) <;> (first | rfl | ((repeat constructor); done))))) | (with_reducible apply And.intro) | (with_reducible exact trivial) | omega | (simp only [List.length_map, List.length_cons, List.length_nil] at *; omega) | (show _ = true; first | rfl | kernel_rfl))
    all_goals ((first | apply ret_mk [none] | apply end_mk [none]); (· ((try simp only [CC, EE, QQ, seval]) <;> rfl)); (· ((try simp only [CC, EE, QQ, seval]) <;> repeat' (first | (with_reducible apply And.intro) | rfl | trivial | (exact ⟨_, rfl⟩) | (exact ⟨_, _, _, rfl⟩) | (simp [*, noChg]; done) | (simp [*, noChg]; omega) | (simp_all [noChg]; done) | (simp_all [noChg]; omega)))); all_goals (first | trivial | decide | ((try simp only [CC, EE, QQ, seval]) <;> repeat' (first | (with_reducible apply And.intro) | (exact ⟨_, rfl, rfl, rfl⟩) | (exact ⟨_, _, _, rfl⟩) | (exact ⟨_, rfl⟩) | trivial | rfl | (simp; done)))))
  by_cases h2 : formF b = true
  case neg =>
    have h2 : formF b = false := by simpa using h2
    have hv : joinF a b = (noChg, 2) := by simp [joinF, h2]
    rw [hv]
    repeat' (first | simp only [↓GE, PL, PP, EE, QQ, seval, h1, h2] | (simp (disch := omega) only [IntWalk.i64_in]) | (refine go_brD (fun h => ?_) (fun h => ?_)) | (refine go_gsD (by ((try simp only [EE, QQ, seval]) <;> rfl)) (fun h => ?_) (fun h => ?_)) | (refine go_br (fun h => ?_) (fun h => ?_)) | (refine go_gs (by ((try simp only [EE, QQ, seval]) <;> rfl)) (fun h => ?_) (fun h => ?_)) | (apply go_call 5000 (r15form a ha) rfl rfl; (· ((try simp only [CC, EE, QQ, seval]) <;> (first | rfl | ((repeat constructor); done)))); (· exact CallForm.plain rfl); (· ((try simp only [CC, EE, QQ, seval]) <;> (first | rfl | ((repeat constructor); done)))); (· ((try simp only [CC, EE, QQ, seval]) <;> (first | rfl | ((repeat constructor); done))))) | (apply go_call 5000 (r15form b hb) rfl rfl; (· ((try simp only [CC, EE, QQ, seval]) <;> (first | rfl | ((repeat constructor); done)))); (· exact CallForm.plain rfl); (· ((try simp only [CC, EE, QQ, seval]) <;> (first | rfl | ((repeat constructor); done)))); (· ((try simp only [CC, EE, QQ, seval]) <;> (first | rfl | ((repeat constructor); done))))) | (with_reducible apply And.intro) | (with_reducible exact trivial) | omega | (simp only [List.length_map, List.length_cons, List.length_nil] at *; omega) | (show _ = true; first | rfl | kernel_rfl))
    all_goals ((first | apply ret_mk [none] | apply end_mk [none]); (· ((try simp only [CC, EE, QQ, seval]) <;> rfl)); (· ((try simp only [CC, EE, QQ, seval]) <;> repeat' (first | (with_reducible apply And.intro) | rfl | trivial | (exact ⟨_, rfl⟩) | (exact ⟨_, _, _, rfl⟩) | (simp [*, noChg]; done) | (simp [*, noChg]; omega) | (simp_all [noChg]; done) | (simp_all [noChg]; omega)))); all_goals (first | trivial | decide | ((try simp only [CC, EE, QQ, seval]) <;> repeat' (first | (with_reducible apply And.intro) | (exact ⟨_, rfl, rfl, rfl⟩) | (exact ⟨_, _, _, rfl⟩) | (exact ⟨_, rfl⟩) | trivial | rfl | (simp; done)))))
  by_cases h3 : a.tt = b.fr
  case neg =>
    have hv : joinF a b = (noChg, 17) := by simp [joinF, h1, h2, h3]
    rw [hv]
    have h3' : (a.tt != b.fr) = true := by simpa using h3
    repeat' (first | simp only [↓GE, PL, PP, EE, QQ, seval, h1, h2, h3'] | (simp (disch := omega) only [IntWalk.i64_in]) | (refine go_brD (fun h => ?_) (fun h => ?_)) | (refine go_gsD (by ((try simp only [EE, QQ, seval]) <;> rfl)) (fun h => ?_) (fun h => ?_)) | (refine go_br (fun h => ?_) (fun h => ?_)) | (refine go_gs (by ((try simp only [EE, QQ, seval]) <;> rfl)) (fun h => ?_) (fun h => ?_)) | (apply go_call 5000 (r15form a ha) rfl rfl; (· ((try simp only [CC, EE, QQ, seval]) <;> (first | rfl | ((repeat constructor); done)))); (· exact CallForm.plain rfl); (· ((try simp only [CC, EE, QQ, seval]) <;> (first | rfl | ((repeat constructor); done)))); (· ((try simp only [CC, EE, QQ, seval]) <;> (first | rfl | ((repeat constructor); done))))) | (apply go_call 5000 (r15form b hb) rfl rfl; (· ((try simp only [CC, EE, QQ, seval]) <;> (first | rfl | ((repeat constructor); done)))); (· exact CallForm.plain rfl); (· ((try simp only [CC, EE, QQ, seval]) <;> (first | rfl | ((repeat constructor); done)))); (· ((try simp only [CC, EE, QQ, seval]) <;> (first | rfl | ((repeat constructor); done))))) | (with_reducible apply And.intro) | (with_reducible exact trivial) | omega | (simp only [List.length_map, List.length_cons, List.length_nil] at *; omega) | (show _ = true; first | rfl | kernel_rfl))
    all_goals ((first | apply ret_mk [none] | apply end_mk [none]); (· ((try simp only [CC, EE, QQ, seval]) <;> rfl)); (· ((try simp only [CC, EE, QQ, seval]) <;> repeat' (first | (with_reducible apply And.intro) | rfl | trivial | (exact ⟨_, rfl⟩) | (exact ⟨_, _, _, rfl⟩) | (simp [*, noChg]; done) | (simp [*, noChg]; omega) | (simp_all [noChg]; done) | (simp_all [noChg]; omega)))); all_goals (first | trivial | decide | ((try simp only [CC, EE, QQ, seval]) <;> repeat' (first | (with_reducible apply And.intro) | (exact ⟨_, rfl, rfl, rfl⟩) | (exact ⟨_, _, _, rfl⟩) | (exact ⟨_, rfl⟩) | trivial | rfl | (simp; done)))))
  obtain ⟨_, _, _, _, _, hfa⟩ := formF_ok h1
  obtain ⟨_, _, _, hb0, hb1, hfb⟩ := formF_ok h2
  have hv : joinF a b = (⟨a.fr, b.tt, b.count, pickF (fun i => (findF i b.sets).or (findF i a.sets)) b.count.toNat 0⟩, 0) := by
    rw [← mergeF_pick hfa hfb hb0]
    simp [joinF, h1, h2, h3]
  rw [hv]
  have h3' : (a.tt != b.fr) = false := by simpa using h3
  repeat' (first | simp only [↓GE, PL, PP, EE, QQ, seval, h1, h2, h3', List.length_map] | (simp (disch := omega) only [IntWalk.i64_in]) | (refine go_brD (fun h => ?_) (fun h => ?_)) | (refine go_gsD (by ((try simp only [EE, QQ, seval]) <;> rfl)) (fun h => ?_) (fun h => ?_)) | (refine go_br (fun h => ?_) (fun h => ?_)) | (refine go_gs (by ((try simp only [EE, QQ, seval]) <;> rfl)) (fun h => ?_) (fun h => ?_)) | (apply go_call 5000 (r15form a ha) rfl rfl; (· ((try simp only [CC, EE, QQ, seval]) <;> (first | rfl | ((repeat constructor); done)))); (· exact CallForm.plain rfl); (· ((try simp only [CC, EE, QQ, seval]) <;> (first | rfl | ((repeat constructor); done)))); (· ((try simp only [CC, EE, QQ, seval]) <;> (first | rfl | ((repeat constructor); done))))) | (apply go_call 5000 (r15form b hb) rfl rfl; (· ((try simp only [CC, EE, QQ, seval]) <;> (first | rfl | ((repeat constructor); done)))); (· exact CallForm.plain rfl); (· ((try simp only [CC, EE, QQ, seval]) <;> (first | rfl | ((repeat constructor); done)))); (· ((try simp only [CC, EE, QQ, seval]) <;> (first | rfl | ((repeat constructor); done))))) | (with_reducible apply And.intro) | (with_reducible exact trivial) | omega | (simp only [List.length_map, List.length_cons, List.length_nil] at *; omega) | (show _ = true; first | rfl | kernel_rfl))
  refine go_loop 5000 hm0 (ι := {p : Nat × Nat // p.1 ≤ b.count.toNat ∧ (pickF (fun i => (findF i b.sets).or (findF i a.sets)) p.1 0).length ≤ p.1}) (fun i => [(2, .bp 2 0 0), (3, .bp 3 0 0), (4, .bp 4 0 0), (6, .bp 6 0 0), (7, I i.1.1)]) (fun i => [(2, .box 0 [I a.fr, I a.tt, I a.count, .d (dSets a.sets)]), (3, .box 0 [I b.fr, I b.tt, I b.count, .d (dSets b.sets)]), (4, .box 0 [I 0, I 0, I 0, .nl 2]), (60, .arr i.1.2 2 true ((pickF (fun i => (findF i b.sets).or (findF i a.sets)) i.1.1 0).map eSet)), (6, .box 0 [I a.fr, I b.tt, I b.count, .og 60 i.1.2])]) (fun i => b.count.toNat - i.1.1) [60] ⟨(0, 0), by simp [pickF]⟩ ?_ ?_
  · (simp only [GeS]; refine ⟨?_, ?_, ?_, ?_⟩; all_goals (repeat' (first | trivial | (with_reducible rfl) | simp only [CC, EE, QQ, seval] | (with_reducible apply And.intro) | rfl | (refine ⟨_, rfl, ?_⟩) | (simp [pickF]; done) | omega)))
  · rintro ⟨⟨k, v⟩, hk, hl⟩
    simp only at hk hl
    by_cases hkn : k < b.count.toNat
    · have hfs : ∀ (c : PChg), ShortS c.sets → ∀ r, findF k c.sets = some r → r.length ≤ 17592186044416 := fun c hd r h => by
        obtain ⟨s, hs1, hs2⟩ := findF_mem h
        rw [← hs2]; exact hd s hs1
      have hp := pickF_succ (g := fun i => (findF i b.sets).or (findF i a.sets)) (n := k) (i := 0)
      simp only [Int.zero_add] at hp
      cases hfk : findF k b.sets with
      | some r =>
        have hr := hfs b hsb r hfk
        rw [hfk] at hp
        simp only [Option.some_or] at hp
        repeat' (first | simp only [↓GE, PL, PP, EE, QQ, seval, hfk, Option.getD_some, Option.isSome_some, eSet, List.length_map] | (simp (disch := omega) only [IntWalk.i64_in]) | (refine go_brD (fun h => ?_) (fun h => ?_)) | (refine go_gsD (by ((try simp only [EE, QQ, seval]) <;> rfl)) (fun h => ?_) (fun h => ?_)) | (refine go_br (fun h => ?_) (fun h => ?_)) | (refine go_gs (by ((try simp only [EE, QQ, seval]) <;> rfl)) (fun h => ?_) (fun h => ?_)) | (apply go_call 5000 (r15find b k hb) rfl rfl; (· ((try simp only [CC, EE, QQ, seval]) <;> (first | rfl | ((repeat constructor); done)))); (· exact CallForm.plain rfl); (· ((try simp only [CC, EE, QQ, seval]) <;> (first | rfl | ((repeat constructor); done)))); (· ((try simp only [CC, EE, QQ, seval]) <;> (first | rfl | ((repeat constructor); done))))) | (with_reducible apply And.intro) | (with_reducible exact trivial) | omega | (simp only [List.length_map, List.length_cons, List.length_nil] at *; omega) | (show _ = true; first | rfl | kernel_rfl))
        refine ⟨⟨(k + 1, v + 1), hkn, by rw [hp]; simp; omega⟩, ?_, by simp only; omega⟩
        (simp only [GeS]; refine ⟨?_, ?_, ?_, ?_⟩; all_goals (repeat' (first | trivial | (with_reducible rfl) | simp only [CC, EE, QQ, seval] | (with_reducible apply And.intro) | rfl | (refine ⟨_, rfl, ?_⟩) | (simp [hp, eSet]; done) | omega)))
      | none =>
        cases hfa : findF k a.sets with
        | some r =>
          have hr := hfs a hsa r hfa
          rw [hfk, hfa] at hp
          simp only [Option.none_or] at hp
          repeat' (first | simp only [↓GE, PL, PP, EE, QQ, seval, hfk, hfa, Option.getD_some, Option.isSome_some, Option.getD_none, Option.isSome_none, eSet, List.length_map] | (simp (disch := omega) only [IntWalk.i64_in]) | (refine go_brD (fun h => ?_) (fun h => ?_)) | (refine go_gsD (by ((try simp only [EE, QQ, seval]) <;> rfl)) (fun h => ?_) (fun h => ?_)) | (refine go_br (fun h => ?_) (fun h => ?_)) | (refine go_gs (by ((try simp only [EE, QQ, seval]) <;> rfl)) (fun h => ?_) (fun h => ?_)) | (apply go_call 5000 (r15find b k hb) rfl rfl; (· ((try simp only [CC, EE, QQ, seval]) <;> (first | rfl | ((repeat constructor); done)))); (· exact CallForm.plain rfl); (· ((try simp only [CC, EE, QQ, seval]) <;> (first | rfl | ((repeat constructor); done)))); (· ((try simp only [CC, EE, QQ, seval]) <;> (first | rfl | ((repeat constructor); done))))) | (apply go_call 5000 (r15find a k ha) rfl rfl; (· ((try simp only [CC, EE, QQ, seval]) <;> (first | rfl | ((repeat constructor); done)))); (· exact CallForm.plain rfl); (· ((try simp only [CC, EE, QQ, seval]) <;> (first | rfl | ((repeat constructor); done)))); (· ((try simp only [CC, EE, QQ, seval]) <;> (first | rfl | ((repeat constructor); done))))) | (with_reducible apply And.intro) | (with_reducible exact trivial) | omega | (simp only [List.length_map, List.length_cons, List.length_nil] at *; omega) | (show _ = true; first | rfl | kernel_rfl))
          refine ⟨⟨(k + 1, v + 1), hkn, by rw [hp]; simp; omega⟩, ?_, by simp only; omega⟩
          (simp only [GeS]; refine ⟨?_, ?_, ?_, ?_⟩; all_goals (repeat' (first | trivial | (with_reducible rfl) | simp only [CC, EE, QQ, seval] | (with_reducible apply And.intro) | rfl | (refine ⟨_, rfl, ?_⟩) | (simp [hp, eSet]; done) | omega)))
        | none =>
          rw [hfk, hfa] at hp
          simp only [Option.none_or, List.append_nil] at hp
          repeat' (first | simp only [↓GE, PL, PP, EE, QQ, seval, hfk, hfa, Option.getD_some, Option.isSome_some, Option.getD_none, Option.isSome_none, eSet, List.length_map] | (simp (disch := omega) only [IntWalk.i64_in]) | (refine go_brD (fun h => ?_) (fun h => ?_)) | (refine go_gsD (by ((try simp only [EE, QQ, seval]) <;> rfl)) (fun h => ?_) (fun h => ?_)) | (refine go_br (fun h => ?_) (fun h => ?_)) | (refine go_gs (by ((try simp only [EE, QQ, seval]) <;> rfl)) (fun h => ?_) (fun h => ?_)) | (apply go_call 5000 (r15find b k hb) rfl rfl; (· ((try simp only [CC, EE, QQ, seval]) <;> (first | rfl | ((repeat constructor); done)))); (· exact CallForm.plain rfl); (· ((try simp only [CC, EE, QQ, seval]) <;> (first | rfl | ((repeat constructor); done)))); (· ((try simp only [CC, EE, QQ, seval]) <;> (first | rfl | ((repeat constructor); done))))) | (apply go_call 5000 (r15find a k ha) rfl rfl; (· ((try simp only [CC, EE, QQ, seval]) <;> (first | rfl | ((repeat constructor); done)))); (· exact CallForm.plain rfl); (· ((try simp only [CC, EE, QQ, seval]) <;> (first | rfl | ((repeat constructor); done)))); (· ((try simp only [CC, EE, QQ, seval]) <;> (first | rfl | ((repeat constructor); done))))) | (with_reducible apply And.intro) | (with_reducible exact trivial) | omega | (simp only [List.length_map, List.length_cons, List.length_nil] at *; omega) | (show _ = true; first | rfl | kernel_rfl))
          refine ⟨⟨(k + 1, v), hkn, by rw [hp]; omega⟩, ?_, by simp only; omega⟩
          (simp only [GeS]; refine ⟨?_, ?_, ?_, ?_⟩; all_goals (repeat' (first | trivial | (with_reducible rfl) | simp only [CC, EE, QQ, seval] | (with_reducible apply And.intro) | rfl | (refine ⟨_, rfl, ?_⟩) | (simp [hp, eSet]; done) | omega)))
    · have : k = b.count.toNat := by omega
      subst this
      repeat' (first | simp only [↓GE, PL, PP, EE, QQ, seval] | (simp (disch := omega) only [IntWalk.i64_in]) | (refine go_brD (fun h => ?_) (fun h => ?_)) | (refine go_gsD (by ((try simp only [EE, QQ, seval]) <;> rfl)) (fun h => ?_) (fun h => ?_)) | (refine go_br (fun h => ?_) (fun h => ?_)) | (refine go_gs (by ((try simp only [EE, QQ, seval]) <;> rfl)) (fun h => ?_) (fun h => ?_)) | (with_reducible apply And.intro) | (with_reducible exact trivial) | omega | (simp only [List.length_map, List.length_cons, List.length_nil] at *; omega) | (show _ = true; first | rfl | kernel_rfl))
      all_goals ((first | apply ret_mk [some 60] | apply end_mk [some 60]); (· ((try simp only [CC, EE, QQ, seval]) <;> rfl)); (· ((try simp only [CC, EE, QQ, seval]) <;> repeat' (first | (with_reducible apply And.intro) | rfl | trivial | (exact ⟨_, rfl⟩) | (exact ⟨_, _, _, rfl⟩) | (simp [*, ]; done) | (simp [*, ]; omega) | (simp_all []; done) | (simp_all []; omega)))); all_goals (first | trivial | decide | ((try simp only [CC, EE, QQ, seval]) <;> repeat' (first | (with_reducible apply And.intro) | (exact ⟨_, rfl, rfl, rfl⟩) | (exact ⟨_, _, _, rfl⟩) | (exact ⟨_, rfl⟩) | trivial | rfl | (simp; done)))))
/-- Whose digests are known. -/
def knownB (n : Nat) (c : PChg) : Bool := decide ((behindF n c.sets : Int) = max 0 (c.count - n))
def digL (l : List Int) (c : PChg) : List Int := (List.range c.count.toNat).map fun (i : Nat) => match findF i c.sets with
  | some r => rowF r
  | none => l.getD i 0
def digsF (l : List Int) (c : PChg) : List Int × Int := if formF c = true ∧ l.length ≤ 1024 ∧ knownB l.length c = true then (digL l c, 0) else ([], 2)
abbrev vL (x : List Int × Int) : V := .tu [.og 1000000 0, I x.2]
abbrev oL (x : List Int × Int) : O := .arr 0 1 true (x.1.map eI)
def setDig : List Int → List PSet → List Int
  | cur, [] => cur
  | cur, s :: r => setDig (cur.set s.idx.toNat (rowF s.row)) r
theorem setDig_len : ∀ {l : List PSet} {cur : List Int}, (setDig cur l).length = cur.length
  | [], _ => rfl
  | s :: r, cur => by rw [setDig, setDig_len, List.length_set]
theorem setDig_get {count : Int} : ∀ {l : List PSet} {last : Int} {cur : List Int}, formGo count last l = true → -1 ≤ last → count ≤ cur.length → ∀ i : Nat, (setDig cur l).getD i 0 = (match findF i l with
      | some r => rowF r
      | none => cur.getD i 0)
  | [], _, _, _, _, _, _ => rfl
  | s :: r, last, cur, h, h0, hc, i => by
    obtain ⟨h1, h2, h3⟩ := formGo_cons.1 h
    have hin := formGo_in h3
    rw [setDig, setDig_get h3 (by omega) (by simpa using hc) i, findF, getD_set]
    by_cases he : s.idx = (i : Int)
    · rw [if_pos he, if_pos (by omega), findF_none fun t ht => by have := hin t ht; omega]
    · rw [if_neg he, if_neg (by omega)]
theorem digL_len {l : List Int} {c : PChg} : (digL l c).length = c.count.toNat := by simp [digL]
theorem digL_get {l : List Int} {c : PChg} {i : Nat} (h : i < c.count.toNat) : (digL l c).getD i 0 = match findF i c.sets with
  | some r => rowF r
  | none => l.getD i 0 := by
  simp [digL, List.getD_eq_getElem?_getD, h]
theorem setDig_apply {l : List Int} {c : PChg} (h : formGo c.count (-1) c.sets = true) (h0 : 0 ≤ c.count) (cur : List Int) (hl : cur.length = c.count.toNat) (hg : ∀ i, i < c.count.toNat → cur.getD i 0 = l.getD i 0) : setDig cur c.sets = digL l c := by
  apply (eq_iff_get 0 _ _ (by rw [setDig_len, digL_len, hl])).2
  intro k hk
  rw [setDig_len, hl] at hk
  rw [setDig_get h (by omega) (by omega) k, digL_get hk, hg k hk]
end Go.Proofs.Ytpliidhbfjjofaa.Sim
