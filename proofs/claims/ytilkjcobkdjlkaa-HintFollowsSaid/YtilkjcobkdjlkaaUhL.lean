/- HintFollows, walked. -/
import Derived.Test.YtilkjcobkdjlkaaUhK
import Derived.Test.YtilkjcobkdjlkaaUhI
namespace Go.Proofs.Ytilkjcobkdjlkaa.Sim
open Go
set_option maxRecDepth 100000
set_option maxHeartbeats 8000000
set_option linter.unusedVariables false
set_option linter.unusedSimpArgs false
attribute [local irreducible] Go Mean
theorem formF_len' {c : PChg} (h : formF c = true) : c.sets.length ≤ 1024 := by
  obtain ⟨f1, f2, f3, f4, f5, f6⟩ := formF_ok h
  have := formGo_len f6 (by omega)
  omega
theorem padF_all {p : Int} (hp : 1 ≤ p) {fac : List Int} (h : fac.all (inE p) = true) {n : Nat} : (padF n fac).all (inE p) = true := by
  rw [allIn] at h ⊢
  intro x hx
  obtain ⟨i, -, rfl⟩ := List.mem_map.1 hx
  by_cases hi : i < fac.length
  · exact h _ (mem_getD _ _ _ hi)
  · rw [List.getD_eq_getElem?_getD, List.getElem?_eq_none (by omega)]; simp; omega
theorem makeH_ok {t : PTab} {f : List Int} (h1 : f.length = t.rows.length) (h2 : f.all (inE t.p) = true) : makeH t f = (⟨t.num, f, combL t.p t.width.toNat f t.rows⟩, 0) := by rw [makeH, if_neg (by omega), if_pos h2]
theorem checkH_ok {t : PTab} {f : List Int} (h1 : f.length = t.rows.length) (h2 : f.all (inE t.p) = true) : checkH t ⟨t.num, f, combL t.p t.width.toNat f t.rows⟩ = 0 := by
  rw [checkH, makeH_ok h1 h2, if_neg (by simp), if_neg (by simp), if_neg (by simp)]
/-- What a dice's change does. -/
theorem chgG_leads (l : List UInt8) {t : PTab} {n : Nat} (h : TabOK t n) (hn : n ≤ 50) (k : Nat) : checkC t (chgG l t k).1 = 0 ∧ applyF t (chgG l t k).1 = ((laterG l t k).1, 0) ∧ (chgG l t k).1.sets.length ≤ 1024 ∧ ShortS (chgG l t k).1.sets := by
  have hok := laterG_ok l k h
  obtain ⟨a1, a2, a3⟩ := laterG_num l k t
  obtain ⟨b1, b2⟩ := between_leads (h.check (by omega)) (hok.check (by omega)) a2.symm a3.symm a1
  have hc : (chgG l t k).1 = ⟨t.num, (laterG l t k).1.num, (laterG l t k).1.rows.length, diffGo t.rows 0 (laterG l t k).1.rows⟩ := by rw [chgG, b1]
  rw [hc]
  obtain ⟨c1, c2⟩ := b2.apply (h.check (by omega)) a2 a3
  have hw := h.w2
  exact ⟨c1, c2, formF_len' b2.form, fun s hs => by have := (b2.rows s hs).1; omega⟩
theorem lawFollows (s : List UInt8) (hs : s.length ≤ 140737488355328) : Does Try.prog 10 [.d (dBytes s)] [] (B true) [] [] := by
  refine go_law38_HintFollows rfl BxOK.nil fun cx hm0 => go_in 5000 ?_
  unfold ac_law38_HintFollows rs_law38_HintFollows
  generalize hL : s.take 300 = l
  have hl : l.length ≤ 140737488355328 := by rw [← hL, List.length_take]; omega
  have e0 := dice s hs
  rw [hL] at e0
  obtain ⟨f1, f2, f3⟩ := fldV_ok l 0
  have d1 := (dfield l hl 0).nm1 22000 0 (by omega) rfl rfl rfl rfl rfl
  generalize fldV l 0 = p at *
  generalize pickK l 0 = k1 at *
  have d2 := (dtable l hl k1 p (by omega)).nm1 22000 0 (by omega) rfl rfl rfl rfl rfl
  have okt := tabG_ok l p k1 f1 f2 f3
  have hp : (tabG l p k1).1.p = p := rfl
  generalize (tabG l p k1).2 = k2 at *
  generalize (tabG l p k1).1 = t at *
  have ht := tabF (okt.check (by omega))
  have hlen := ht.len
  have d3 := (delements l hl k2 t.p (by omega) t.rows.length (by omega)).nm1 22000 0 (by omega) rfl rfl rfl rfl rfl
  have la := elmG_len (l := l) (p := t.p) (k := k2) (n := t.rows.length)
  have aa := elmG_all (l := l) (p := t.p) (k := k2) (n := t.rows.length) (by omega)
  generalize (elmG l t.p k2 t.rows.length).2 = k3 at *
  generalize (elmG l t.p k2 t.rows.length).1 = c at *
  have m1 := hmake t c ht (by omega)
  rw [makeH_ok la aa] at m1
  have d4 := (pick l hl k3 4 (by omega)).nm1 22000 0 (by omega) rfl rfl rfl rfl rfl
  have a4 := pickV_in l k3 4 (by omega)
  obtain ⟨n, hn⟩ : ∃ n : Nat, pickV l k3 4 = (n : Int) := ⟨(pickV l k3 4).toNat, by omega⟩
  rw [hn] at d4 a4
  generalize pickK l k3 = k4 at *
  subst hp
  repeat' (first | simp (maxSteps := 9999999) only [↓GE, PL, PP, EE, QQ, seval, List.length_map] | (simp (disch := omega) only [IntWalk.i64_in]) | (refine go_brD (fun h => ?_) (fun h => ?_)) | (refine go_gsD (by ((try simp only [EE, QQ, seval]) <;> rfl)) (fun h => ?_) (fun h => ?_)) | (refine go_br (fun h => ?_) (fun h => ?_)) | (refine go_gs (by ((try simp only [EE, QQ, seval]) <;> rfl)) (fun h => ?_) (fun h => ?_)) | (apply go_call 5000 (sane38) rfl rfl; (· ((try simp only [CC, LL, NM, EE, QQ, seval]) <;> (first | rfl | ((repeat constructor); done)))); (· exact CallForm.plain rfl); (· ((try simp only [CC, LL, NM, EE, QQ, seval]) <;> (first | rfl | ((repeat constructor); done)))); (· ((try simp only [CC, LL, NM, EE, QQ, seval]) <;> (first | rfl | ((repeat constructor); done))))) | (apply go_call 5000 (e0) rfl rfl; (· ((try simp only [CC, LL, NM, EE, QQ, seval]) <;> (first | rfl | ((repeat constructor); done)))); (· exact CallForm.news rfl rfl); (· ((try simp only [CC, LL, NM, EE, QQ, seval]) <;> (first | rfl | ((repeat constructor); done)))); (· ((try simp only [CC, LL, NM, EE, QQ, seval]) <;> (first | rfl | ((repeat constructor); done))))) | (apply go_call 5000 (d1) rfl rfl; (· ((try simp only [CC, LL, NM, EE, QQ, seval]) <;> (first | rfl | ((repeat constructor); done)))); (· exact CallForm.lent (by (try simp only [CC, LL, NM, EE, QQ, seval]); repeat' (first | trivial | (with_reducible rfl) | omega | (with_reducible apply And.intro) | rfl)) rfl rfl); (· ((try simp only [CC, LL, NM, EE, QQ, seval]) <;> (first | rfl | ((repeat constructor); done)))); (· ((try simp only [CC, LL, NM, EE, QQ, seval]) <;> (first | rfl | ((repeat constructor); done))))) | (apply go_call 5000 (d2) rfl rfl; (· ((try simp only [CC, LL, NM, EE, QQ, seval]) <;> (first | rfl | ((repeat constructor); done)))); (· exact CallForm.lent (by (try simp only [CC, LL, NM, EE, QQ, seval]); repeat' (first | trivial | (with_reducible rfl) | omega | (with_reducible apply And.intro) | rfl)) rfl rfl); (· ((try simp only [CC, LL, NM, EE, QQ, seval]) <;> (first | rfl | ((repeat constructor); done)))); (· ((try simp only [CC, LL, NM, EE, QQ, seval]) <;> (first | rfl | ((repeat constructor); done))))) | (apply go_call 5000 (d3) rfl rfl; (· ((try simp only [CC, LL, NM, EE, QQ, seval]) <;> (first | rfl | ((repeat constructor); done)))); (· exact CallForm.lent (by (try simp only [CC, LL, NM, EE, QQ, seval]); repeat' (first | trivial | (with_reducible rfl) | omega | (with_reducible apply And.intro) | rfl)) rfl rfl); (· ((try simp only [CC, LL, NM, EE, QQ, seval]) <;> (first | rfl | ((repeat constructor); done)))); (· ((try simp only [CC, LL, NM, EE, QQ, seval]) <;> (first | rfl | ((repeat constructor); done))))) | (apply go_call 5000 (m1) rfl rfl; (· ((try simp only [CC, LL, NM, EE, QQ, seval]) <;> (first | rfl | ((repeat constructor); done)))); (· exact CallForm.plain rfl); (· ((try simp only [CC, LL, NM, EE, QQ, seval]) <;> (first | rfl | ((repeat constructor); done)))); (· ((try simp only [CC, LL, NM, EE, QQ, seval]) <;> (first | rfl | ((repeat constructor); done))))) | (apply go_call 5000 (d4) rfl rfl; (· ((try simp only [CC, LL, NM, EE, QQ, seval]) <;> (first | rfl | ((repeat constructor); done)))); (· exact CallForm.lent (by (try simp only [CC, LL, NM, EE, QQ, seval]); repeat' (first | trivial | (with_reducible rfl) | omega | (with_reducible apply And.intro) | rfl)) rfl rfl); (· ((try simp only [CC, LL, NM, EE, QQ, seval]) <;> (first | rfl | ((repeat constructor); done)))); (· ((try simp only [CC, LL, NM, EE, QQ, seval]) <;> (first | rfl | ((repeat constructor); done))))) | (with_reducible apply And.intro) | (with_reducible exact trivial) | omega | (simp only [List.length_map, List.length_cons, List.length_nil] at *; omega) | (show _ = true; first | rfl | kernel_rfl))
  refine go_loopz 5000 hm0 (ι := {q : Nat × PTab × List Int × Nat // q.1 ≤ 3 ∧ TabOK q.2.1 (3 - q.1) ∧ q.2.2.1.length = q.2.1.rows.length ∧ q.2.2.1.all (inE q.2.1.p) = true}) (fun i => [(3, .bp 22000 0 0), (4, .bp 4 0 0), (5, .bp 5 0 0), (7, I i.1.1)]) (fun i => [(4, .box 0 [I i.1.2.1.num, I i.1.2.1.p, I i.1.2.1.width, .d (dRows i.1.2.1.rows)]), (5, .box 0 [I i.1.2.1.num, .d (dInts i.1.2.2.1), .d (dInts (combL i.1.2.1.p i.1.2.1.width.toNat i.1.2.2.1 i.1.2.1.rows))]), (22000, .box 0 [.d (dBytes l), I i.1.2.2.2])]) (fun i => i.1.1) [] [] ⟨(n, t, c, k4), by omega, okt.mono (by omega), la, aa⟩ ?_ ?_
  · simp only [GeZ]; (simp only [GeS]; refine ⟨?_, ?_, ?_, ?_⟩; all_goals (repeat' (first | trivial | (with_reducible rfl) | simp only [CC, LL, EE, QQ, seval] | (with_reducible apply And.intro) | rfl | (refine ⟨_, rfl, ?_⟩) | (simp; done) | omega)))
  · rintro ⟨⟨j, t, fac, k⟩, hj, hok, lf, af⟩
    simp only at hj hok lf af ⊢
    clear okt ht hlen d1 d2 d3 la aa m1 d4 a4 hn f1 f2 f3
    have ht := tabF (hok.check (by omega))
    by_cases hj0 : 0 < j
    · have q0 : decide ((j : Int) > 0) = true := decide_eq_true (by omega)
      have w0 : IntKind.i64.wrap ((j : Int) - 1) = ((j - 1 : Nat) : Int) := by rw [show (j : Int) - 1 = ((j - 1 : Nat) : Int) by omega]; exact IntWalk.i64_in _ (by omega)
      have e1 := (dchange l hl k t hok (by omega)).nm1 22000 0 (by omega) rfl rfl rfl rfl rfl
      obtain ⟨g1, g2, g3, g4⟩ := chgG_leads l hok (by omega) k
      have oku := laterG_ok l k hok
      obtain ⟨n1, n2, n3⟩ := laterG_num l k t
      generalize (chgG l t k).2 = k' at *
      generalize (chgG l t k).1 = C at *
      generalize (laterG l t k).1 = u at *
      have hu := tabF (oku.check (by omega))
      have hlt := ht.len; have hlu := hu.len
      have lsm := combL_len (p := t.p) (w := t.width.toNat) (c := fac) (rows := t.rows)
      have hw2 := ht.w2
      have e2 := happly t ⟨t.num, fac, combL t.p t.width.toNat fac t.rows⟩ C ht (by simp only; omega) (by simp only; omega) (by omega) g4
      rw [nextH, if_neg (by simp [g1]), checkH_ok lf af, if_neg (by simp), g2] at e2
      have e3 := r15apply t C (by omega) ht.short (by omega) g4
      rw [g2] at e3
      simp only at e2
      have lpad := padF_len (n := u.rows.length) (fac := fac)
      have apad := padF_all (p := u.p) (by have := hu.p2; omega) (n := u.rows.length) (by rw [n2]; exact af)
      have hgp := fun i (hi : i < u.rows.length) => padF_get (fac := fac) hi
      generalize padF u.rows.length fac = pad at *
      have hmk := makeH_ok lpad apad
      rw [hmk] at e2
      have e4 := hmake u pad hu (by omega)
      rw [hmk] at e4
      have lsu := combL_len (p := u.p) (w := u.width.toNat) (c := pad) (rows := u.rows)
      have hwu := hu.w2
      have e5 := r38same ⟨u.num, pad, combL u.p u.width.toNat pad u.rows⟩ ⟨u.num, pad, combL u.p u.width.toNat pad u.rows⟩ (by simp only; omega) (by simp only; omega) (by simp only; omega) (by simp only; omega)
      rw [show sameH ⟨u.num, pad, combL u.p u.width.toNat pad u.rows⟩ ⟨u.num, pad, combL u.p u.width.toNat pad u.rows⟩ = true by simp [sameH]] at e5
      have e6 := hcheck u ⟨u.num, pad, combL u.p u.width.toNat pad u.rows⟩ hu (by simp only; omega) (by simp only; omega)
      rw [checkH_ok lpad apad] at e6
      have e7 := hcheck u ⟨t.num, fac, combL t.p t.width.toNat fac t.rows⟩ hu (by simp only; omega) (by simp only; omega)
      have hc17 : fac.length = u.rows.length → checkH u ⟨t.num, fac, combL t.p t.width.toNat fac t.rows⟩ = 17 := fun h => by
        rw [checkH, makeH_ok h (by rw [n2]; exact af), if_neg (by simp), if_pos (by simp only; omega)]
      have q1 : ((u.rows.length : Int) != (u.rows.length : Int)) = false := by simp
      have q3 : (u.num != u.num) = false := by simp
      generalize hcm : combL u.p u.width.toNat pad u.rows = su at *
      generalize combL t.p t.width.toNat fac t.rows = st at *
      simp only at e2 e3 e4 e5 e6 e7
      have key : ∀ (T : Prop), T → T := fun _ h => h
      by_cases hle : fac.length = u.rows.length
      · have q2 : ((fac.length : Int) == (u.rows.length : Int)) = true := by rw [hle]; simp
        rw [hc17 hle] at e7
        repeat' (first | simp (maxSteps := 9999999) only [↓GE, PL, PP, EE, QQ, seval, q0, q1, q2, q3, lpad, List.length_map] | (simp (disch := omega) only [IntWalk.i64_in]) | (refine go_brD (fun h => ?_) (fun h => ?_)) | (refine go_gsD (by ((try simp only [EE, QQ, seval]) <;> rfl)) (fun h => ?_) (fun h => ?_)) | (refine go_br (fun h => ?_) (fun h => ?_)) | (refine go_gs (by ((try simp only [EE, QQ, seval]) <;> rfl)) (fun h => ?_) (fun h => ?_)) | (apply go_call 5000 (e1) rfl rfl; (· ((try simp only [CC, LL, NM, EE, QQ, seval]) <;> (first | rfl | ((repeat constructor); done)))); (· exact CallForm.lent (by (try simp only [CC, LL, NM, EE, QQ, seval]); repeat' (first | trivial | (with_reducible rfl) | omega | (with_reducible apply And.intro) | rfl)) rfl rfl); (· ((try simp only [CC, LL, NM, EE, QQ, seval]) <;> (first | rfl | ((repeat constructor); done)))); (· ((try simp only [CC, LL, NM, EE, QQ, seval]) <;> (first | rfl | ((repeat constructor); done))))) | (apply go_call 5000 (e2) rfl rfl; (· ((try simp only [CC, LL, NM, EE, QQ, seval]) <;> (first | rfl | ((repeat constructor); done)))); (· exact CallForm.plain rfl); (· ((try simp only [CC, LL, NM, EE, QQ, seval]) <;> (first | rfl | ((repeat constructor); done)))); (· ((try simp only [CC, LL, NM, EE, QQ, seval]) <;> (first | rfl | ((repeat constructor); done))))) | (apply go_call 5000 (e3) rfl rfl; (· ((try simp only [CC, LL, NM, EE, QQ, seval]) <;> (first | rfl | ((repeat constructor); done)))); (· exact CallForm.news rfl rfl); (· ((try simp only [CC, LL, NM, EE, QQ, seval]) <;> (first | rfl | ((repeat constructor); done)))); (· ((try simp only [CC, LL, NM, EE, QQ, seval]) <;> (first | rfl | ((repeat constructor); done))))) | (apply go_call 5000 (e4) rfl rfl; (· ((try simp only [CC, LL, NM, EE, QQ, seval]) <;> (first | rfl | ((repeat constructor); done)))); (· exact CallForm.plain rfl); (· ((try simp only [CC, LL, NM, EE, QQ, seval]) <;> (first | rfl | ((repeat constructor); done)))); (· ((try simp only [CC, LL, NM, EE, QQ, seval]) <;> (first | rfl | ((repeat constructor); done))))) | (apply go_call 5000 (e5) rfl rfl; (· ((try simp only [CC, LL, NM, EE, QQ, seval]) <;> (first | rfl | ((repeat constructor); done)))); (· exact CallForm.plain rfl); (· ((try simp only [CC, LL, NM, EE, QQ, seval]) <;> (first | rfl | ((repeat constructor); done)))); (· ((try simp only [CC, LL, NM, EE, QQ, seval]) <;> (first | rfl | ((repeat constructor); done))))) | (apply go_call 5000 (e6) rfl rfl; (· ((try simp only [CC, LL, NM, EE, QQ, seval]) <;> (first | rfl | ((repeat constructor); done)))); (· exact CallForm.plain rfl); (· ((try simp only [CC, LL, NM, EE, QQ, seval]) <;> (first | rfl | ((repeat constructor); done)))); (· ((try simp only [CC, LL, NM, EE, QQ, seval]) <;> (first | rfl | ((repeat constructor); done))))) | (apply go_call 5000 (e7) rfl rfl; (· ((try simp only [CC, LL, NM, EE, QQ, seval]) <;> (first | rfl | ((repeat constructor); done)))); (· exact CallForm.plain rfl); (· ((try simp only [CC, LL, NM, EE, QQ, seval]) <;> (first | rfl | ((repeat constructor); done)))); (· ((try simp only [CC, LL, NM, EE, QQ, seval]) <;> (first | rfl | ((repeat constructor); done))))) | (with_reducible apply And.intro) | (with_reducible exact trivial) | omega | (simp only [List.length_map, List.length_cons, List.length_nil] at *; omega) | (show _ = true; first | rfl | kernel_rfl))
        refine go_loop 5000 hm0 (ι := {i : Nat // i ≤ pad.length}) (fun i => [(3, .bp 22000 0 0), (4, .bp 4 0 0), (5, .bp 5 0 0), (7, I j), (9, .bp 9 0 0), (11, .bp 11 0 0), (121, I u.rows.length), (122, I i.1)]) (fun i => [(4, .box 0 [I t.num, I t.p, I t.width, .d (dRows t.rows)]), (5, .box 0 [I t.num, .d (dInts fac), .d (dInts st)]), (9, .box 0 [I u.num, .d (dInts pad), .d (dInts su)]), (11, .box 0 [I u.num, I u.p, I u.width, .og 60000 0]), (60000, .arr 0 1 false (u.rows.map eR)), (22000, .box 0 [.d (dBytes l), I k'])]) (fun i => pad.length - i.1) [] ⟨0, Nat.zero_le _⟩ ?_ ?_
        · (simp only [GeS]; refine ⟨?_, ?_, ?_, ?_⟩; all_goals (repeat' (first | trivial | (with_reducible rfl) | simp only [CC, LL, EE, QQ, seval] | (with_reducible apply And.intro) | rfl | (refine ⟨_, rfl, ?_⟩) | (simp; done) | omega)))
        · rintro ⟨i, hi⟩
          simp only
          by_cases hip : i < pad.length
          · have hs1 := getD_map eI [] 0 pad i hip
            have hs2 := getD_map eI [] 0 fac i (by omega)
            rw [hgp i (by omega)] at hs1
            have hif : i < fac.length := by omega
            generalize fac.getD i 0 = y at *
            have qy : (y != y) = false := by simp
            repeat' (first | simp (maxSteps := 9999999) only [↓GE, PL, PP, EE, QQ, seval, qy, hs1, hs2, hip, hif, eI, List.length_map] | (simp (disch := omega) only [IntWalk.i64_in]) | (refine go_brD (fun h => ?_) (fun h => ?_)) | (refine go_gsD (by ((try simp only [EE, QQ, seval]) <;> rfl)) (fun h => ?_) (fun h => ?_)) | (refine go_br (fun h => ?_) (fun h => ?_)) | (refine go_gs (by ((try simp only [EE, QQ, seval]) <;> rfl)) (fun h => ?_) (fun h => ?_)) | (with_reducible apply And.intro) | (with_reducible exact trivial) | omega | (simp only [List.length_map, List.length_cons, List.length_nil] at *; omega) | (show _ = true; first | rfl | kernel_rfl))
            refine ⟨⟨i + 1, hip⟩, ?_, by simp only; omega⟩
            (simp only [GeS]; refine ⟨?_, ?_, ?_, ?_⟩; all_goals (repeat' (first | trivial | (with_reducible rfl) | simp only [CC, LL, EE, QQ, seval] | (with_reducible apply And.intro) | rfl | (refine ⟨_, rfl, ?_⟩) | (simp; done) | omega)))
          · obtain rfl : i = pad.length := by omega
            repeat' (first | simp (maxSteps := 9999999) only [↓GE, PL, PP, EE, QQ, seval, w0, lpad] | (simp (disch := omega) only [IntWalk.i64_in]) | (refine go_brD (fun h => ?_) (fun h => ?_)) | (refine go_gsD (by ((try simp only [EE, QQ, seval]) <;> rfl)) (fun h => ?_) (fun h => ?_)) | (refine go_br (fun h => ?_) (fun h => ?_)) | (refine go_gs (by ((try simp only [EE, QQ, seval]) <;> rfl)) (fun h => ?_) (fun h => ?_)) | (with_reducible apply And.intro) | (with_reducible exact trivial) | omega | (simp only [List.length_map, List.length_cons, List.length_nil] at *; omega) | (show _ = true; first | rfl | kernel_rfl))
            refine ⟨[.og 60000 0], [], ⟨(j - 1, u, pad, k'), by omega, oku.mono (by omega), lpad, apad⟩, ?_, by simp only; omega⟩
            simp only [GeZ]; (simp only [GeS]; refine ⟨?_, ?_, ?_, ?_⟩; all_goals (repeat' (first | trivial | (with_reducible rfl) | simp only [CC, LL, EE, QQ, seval] | (with_reducible apply And.intro) | rfl | (refine ⟨_, rfl, ?_⟩) | (simp [hcm]; done) | omega)))
      · have q2 : ((fac.length : Int) == (u.rows.length : Int)) = false := by rw [beq_eq_false_iff_ne]; omega
        repeat' (first | simp (maxSteps := 9999999) only [↓GE, PL, PP, EE, QQ, seval, q0, q1, q2, q3, lpad, List.length_map] | (simp (disch := omega) only [IntWalk.i64_in]) | (refine go_brD (fun h => ?_) (fun h => ?_)) | (refine go_gsD (by ((try simp only [EE, QQ, seval]) <;> rfl)) (fun h => ?_) (fun h => ?_)) | (refine go_br (fun h => ?_) (fun h => ?_)) | (refine go_gs (by ((try simp only [EE, QQ, seval]) <;> rfl)) (fun h => ?_) (fun h => ?_)) | (apply go_call 5000 (e1) rfl rfl; (· ((try simp only [CC, LL, NM, EE, QQ, seval]) <;> (first | rfl | ((repeat constructor); done)))); (· exact CallForm.lent (by (try simp only [CC, LL, NM, EE, QQ, seval]); repeat' (first | trivial | (with_reducible rfl) | omega | (with_reducible apply And.intro) | rfl)) rfl rfl); (· ((try simp only [CC, LL, NM, EE, QQ, seval]) <;> (first | rfl | ((repeat constructor); done)))); (· ((try simp only [CC, LL, NM, EE, QQ, seval]) <;> (first | rfl | ((repeat constructor); done))))) | (apply go_call 5000 (e2) rfl rfl; (· ((try simp only [CC, LL, NM, EE, QQ, seval]) <;> (first | rfl | ((repeat constructor); done)))); (· exact CallForm.plain rfl); (· ((try simp only [CC, LL, NM, EE, QQ, seval]) <;> (first | rfl | ((repeat constructor); done)))); (· ((try simp only [CC, LL, NM, EE, QQ, seval]) <;> (first | rfl | ((repeat constructor); done))))) | (apply go_call 5000 (e3) rfl rfl; (· ((try simp only [CC, LL, NM, EE, QQ, seval]) <;> (first | rfl | ((repeat constructor); done)))); (· exact CallForm.news rfl rfl); (· ((try simp only [CC, LL, NM, EE, QQ, seval]) <;> (first | rfl | ((repeat constructor); done)))); (· ((try simp only [CC, LL, NM, EE, QQ, seval]) <;> (first | rfl | ((repeat constructor); done))))) | (apply go_call 5000 (e4) rfl rfl; (· ((try simp only [CC, LL, NM, EE, QQ, seval]) <;> (first | rfl | ((repeat constructor); done)))); (· exact CallForm.plain rfl); (· ((try simp only [CC, LL, NM, EE, QQ, seval]) <;> (first | rfl | ((repeat constructor); done)))); (· ((try simp only [CC, LL, NM, EE, QQ, seval]) <;> (first | rfl | ((repeat constructor); done))))) | (apply go_call 5000 (e5) rfl rfl; (· ((try simp only [CC, LL, NM, EE, QQ, seval]) <;> (first | rfl | ((repeat constructor); done)))); (· exact CallForm.plain rfl); (· ((try simp only [CC, LL, NM, EE, QQ, seval]) <;> (first | rfl | ((repeat constructor); done)))); (· ((try simp only [CC, LL, NM, EE, QQ, seval]) <;> (first | rfl | ((repeat constructor); done))))) | (apply go_call 5000 (e6) rfl rfl; (· ((try simp only [CC, LL, NM, EE, QQ, seval]) <;> (first | rfl | ((repeat constructor); done)))); (· exact CallForm.plain rfl); (· ((try simp only [CC, LL, NM, EE, QQ, seval]) <;> (first | rfl | ((repeat constructor); done)))); (· ((try simp only [CC, LL, NM, EE, QQ, seval]) <;> (first | rfl | ((repeat constructor); done))))) | (with_reducible apply And.intro) | (with_reducible exact trivial) | omega | (simp only [List.length_map, List.length_cons, List.length_nil] at *; omega) | (show _ = true; first | rfl | kernel_rfl))
        refine go_loop 5000 hm0 (ι := {i : Nat // i ≤ pad.length}) (fun i => [(3, .bp 22000 0 0), (4, .bp 4 0 0), (5, .bp 5 0 0), (7, I j), (9, .bp 9 0 0), (11, .bp 11 0 0), (121, I u.rows.length), (122, I i.1)]) (fun i => [(4, .box 0 [I t.num, I t.p, I t.width, .d (dRows t.rows)]), (5, .box 0 [I t.num, .d (dInts fac), .d (dInts st)]), (9, .box 0 [I u.num, .d (dInts pad), .d (dInts su)]), (11, .box 0 [I u.num, I u.p, I u.width, .og 60000 0]), (60000, .arr 0 1 false (u.rows.map eR)), (22000, .box 0 [.d (dBytes l), I k'])]) (fun i => pad.length - i.1) [] ⟨0, Nat.zero_le _⟩ ?_ ?_
        · (simp only [GeS]; refine ⟨?_, ?_, ?_, ?_⟩; all_goals (repeat' (first | trivial | (with_reducible rfl) | simp only [CC, LL, EE, QQ, seval] | (with_reducible apply And.intro) | rfl | (refine ⟨_, rfl, ?_⟩) | (simp; done) | omega)))
        · rintro ⟨i, hi⟩
          simp only
          by_cases hip : i < pad.length
          · have hs1 := getD_map eI [] 0 pad i hip
            rw [hgp i (by omega)] at hs1
            by_cases hif : i < fac.length
            · have hs2 := getD_map eI [] 0 fac i (by omega)
              generalize fac.getD i 0 = y at *
              have qy : (y != y) = false := by simp
              repeat' (first | simp (maxSteps := 9999999) only [↓GE, PL, PP, EE, QQ, seval, qy, hs1, hs2, hip, hif, eI, List.length_map] | (simp (disch := omega) only [IntWalk.i64_in]) | (refine go_brD (fun h => ?_) (fun h => ?_)) | (refine go_gsD (by ((try simp only [EE, QQ, seval]) <;> rfl)) (fun h => ?_) (fun h => ?_)) | (refine go_br (fun h => ?_) (fun h => ?_)) | (refine go_gs (by ((try simp only [EE, QQ, seval]) <;> rfl)) (fun h => ?_) (fun h => ?_)) | (with_reducible apply And.intro) | (with_reducible exact trivial) | omega | (simp only [List.length_map, List.length_cons, List.length_nil] at *; omega) | (show _ = true; first | rfl | kernel_rfl))
              refine ⟨⟨i + 1, hip⟩, ?_, by simp only; omega⟩
              (simp only [GeS]; refine ⟨?_, ?_, ?_, ?_⟩; all_goals (repeat' (first | trivial | (with_reducible rfl) | simp only [CC, LL, EE, QQ, seval] | (with_reducible apply And.intro) | rfl | (refine ⟨_, rfl, ?_⟩) | (simp; done) | omega)))
            · have hz : fac.getD i 0 = 0 := by rw [List.getD_eq_getElem?_getD, List.getElem?_eq_none (by omega)]; rfl
              rw [hz] at hs1
              repeat' (first | simp (maxSteps := 9999999) only [↓GE, PL, PP, EE, QQ, seval, hs1, hip, eI, List.length_map] | (simp (disch := omega) only [IntWalk.i64_in]) | (refine go_brD (fun h => ?_) (fun h => ?_)) | (refine go_gsD (by ((try simp only [EE, QQ, seval]) <;> rfl)) (fun h => ?_) (fun h => ?_)) | (refine go_br (fun h => ?_) (fun h => ?_)) | (refine go_gs (by ((try simp only [EE, QQ, seval]) <;> rfl)) (fun h => ?_) (fun h => ?_)) | (with_reducible apply And.intro) | (with_reducible exact trivial) | omega | (simp only [List.length_map, List.length_cons, List.length_nil] at *; omega) | (show _ = true; first | rfl | kernel_rfl))
              refine ⟨⟨i + 1, hip⟩, ?_, by simp only; omega⟩
              (simp only [GeS]; refine ⟨?_, ?_, ?_, ?_⟩; all_goals (repeat' (first | trivial | (with_reducible rfl) | simp only [CC, LL, EE, QQ, seval] | (with_reducible apply And.intro) | rfl | (refine ⟨_, rfl, ?_⟩) | (simp; done) | omega)))
          · obtain rfl : i = pad.length := by omega
            repeat' (first | simp (maxSteps := 9999999) only [↓GE, PL, PP, EE, QQ, seval, w0, lpad] | (simp (disch := omega) only [IntWalk.i64_in]) | (refine go_brD (fun h => ?_) (fun h => ?_)) | (refine go_gsD (by ((try simp only [EE, QQ, seval]) <;> rfl)) (fun h => ?_) (fun h => ?_)) | (refine go_br (fun h => ?_) (fun h => ?_)) | (refine go_gs (by ((try simp only [EE, QQ, seval]) <;> rfl)) (fun h => ?_) (fun h => ?_)) | (with_reducible apply And.intro) | (with_reducible exact trivial) | omega | (simp only [List.length_map, List.length_cons, List.length_nil] at *; omega) | (show _ = true; first | rfl | kernel_rfl))
            refine ⟨[.og 60000 0], [], ⟨(j - 1, u, pad, k'), by omega, oku.mono (by omega), lpad, apad⟩, ?_, by simp only; omega⟩
            simp only [GeZ]; (simp only [GeS]; refine ⟨?_, ?_, ?_, ?_⟩; all_goals (repeat' (first | trivial | (with_reducible rfl) | simp only [CC, LL, EE, QQ, seval] | (with_reducible apply And.intro) | rfl | (refine ⟨_, rfl, ?_⟩) | (simp [hcm]; done) | omega)))
    · obtain rfl : j = 0 := by omega
      have e1 := r14check t (by have := ht.len; omega) ht.short
      rw [ht.chk] at e1
      repeat' (first | simp (maxSteps := 9999999) only [↓GE, PL, PP, EE, QQ, seval] | (simp (disch := omega) only [IntWalk.i64_in]) | (refine go_brD (fun h => ?_) (fun h => ?_)) | (refine go_gsD (by ((try simp only [EE, QQ, seval]) <;> rfl)) (fun h => ?_) (fun h => ?_)) | (refine go_br (fun h => ?_) (fun h => ?_)) | (refine go_gs (by ((try simp only [EE, QQ, seval]) <;> rfl)) (fun h => ?_) (fun h => ?_)) | (apply go_call 5000 (e1) rfl rfl; (· ((try simp only [CC, LL, NM, EE, QQ, seval]) <;> (first | rfl | ((repeat constructor); done)))); (· exact CallForm.plain rfl); (· ((try simp only [CC, LL, NM, EE, QQ, seval]) <;> (first | rfl | ((repeat constructor); done)))); (· ((try simp only [CC, LL, NM, EE, QQ, seval]) <;> (first | rfl | ((repeat constructor); done))))) | (with_reducible apply And.intro) | (with_reducible exact trivial) | omega | (simp only [List.length_map, List.length_cons, List.length_nil] at *; omega) | (show _ = true; first | rfl | kernel_rfl))
      all_goals ((first | apply ret_mk [] | apply end_mk []); (· ((try simp only [CC, LL, EE, QQ, seval]) <;> rfl)); (· ((try simp only [CC, LL, EE, QQ, seval]) <;> repeat' (first | (with_reducible apply And.intro) | rfl | trivial | (exact ⟨_, rfl⟩) | (exact ⟨_, _, _, rfl⟩) | (simp [*, ]; done) | (simp [*, ]; omega) | (simp_all []; done) | (simp_all []; omega)))); all_goals (first | trivial | decide | ((try simp only [CC, LL, EE, QQ, seval]) <;> repeat' (first | (with_reducible apply And.intro) | (exact ⟨_, rfl, rfl, rfl⟩) | (exact ⟨_, _, _, rfl⟩) | (exact ⟨_, rfl⟩) | trivial | rfl | (simp; done)))))
end Go.Proofs.Ytilkjcobkdjlkaa.Sim
