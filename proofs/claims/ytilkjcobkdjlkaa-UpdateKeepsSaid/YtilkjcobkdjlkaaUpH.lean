/- UpdateKeeps: plain, and walked. -/
import Derived.Test.YtilkjcobkdjlkaaUpG
namespace Go.Proofs.Ytilkjcobkdjlkaa.Sim
open Go
set_option maxRecDepth 100000
set_option maxHeartbeats 8000000
set_option linter.unusedVariables false
set_option linter.unusedSimpArgs false
attribute [local irreducible] Go Mean
theorem keepN_mem {ts : List PTab} {vs : List Int} : ∀ {n : Nat} {t : PTab}, t ∈ keepN ts vs n → ∃ j, j < n ∧ t = ts.getD j noTab ∧ delB ts.length vs j t = false
  | 0, t, h => by simp [keepN] at h
  | n + 1, t, h => by
    rw [keepN] at h
    split at h
    · obtain ⟨j, h1, h2⟩ := keepN_mem h
      exact ⟨j, by omega, h2⟩
    · rename_i hd
      rcases List.mem_append.1 h with h | h
      · obtain ⟨j, h1, h2⟩ := keepN_mem h
        exact ⟨j, by omega, h2⟩
      · simp only [List.mem_singleton] at h
        subst h
        exact ⟨n, by omega, rfl, by simpa using hd⟩
theorem keepN_in {ts : List PTab} {vs : List Int} {j : Nat} (hd : delB ts.length vs j (ts.getD j noTab) = false) : ∀ {n : Nat}, j < n → ts.getD j noTab ∈ keepN ts vs n
  | 0, h => by omega
  | n + 1, h => by
    rw [keepN]
    by_cases e : j = n
    · subst e
      rw [if_neg (by rw [hd]; simp)]
      simp
    · have := keepN_in hd (n := n) (by omega)
      split
      · exact this
      · exact List.mem_append.2 (.inl this)
theorem keepN_valid {ts : List PTab} {vs : List Int} (h : validP ts) : ∀ {n : Nat}, n ≤ ts.length → keepN ts vs n = [] ∨ (validP (keepN ts vs n) ∧ ∃ j, j < n ∧ lastT (keepN ts vs n) = ts.getD j noTab)
  | 0, _ => .inl rfl
  | n + 1, hn => by
    have a := h.2.2 n (by omega)
    rw [keepN]
    split
    · rcases keepN_valid (vs := vs) h (n := n) (by omega) with g | ⟨g1, j, g2, g3⟩
      · exact .inl g
      · exact .inr ⟨g1, j, by omega, g3⟩
    · refine .inr ?_
      rcases keepN_valid (vs := vs) h (n := n) (by omega) with g | ⟨g1, j, g2, g3⟩
      · rw [g]
        exact ⟨validP.one a.1, n, by omega, rfl⟩
      · have b := h.2.2 j (by omega)
        refine ⟨g1.app a.1 (by rw [g3]; exact a.2.1.trans b.2.1.symm) (by rw [g3]; exact a.2.2.1.trans b.2.2.1.symm) (by rw [g3]; exact h.lt g2 (by omega)) (by have := keepN_len (l := ts) (vs := vs) (n := n); have := h.2.1; omega), n, by omega, lastT_app⟩
theorem keepF_last {ts : List PTab} {vs : List Int} (h : validP ts) : validP (keepF ts vs) ∧ lastT (keepF ts vs) = lastT ts := by
  have h1 := h.1
  obtain ⟨m, hm⟩ : ∃ m, ts.length = m + 1 := ⟨ts.length - 1, by omega⟩
  have hd : delB ts.length vs m (ts.getD m noTab) = false := by rw [delB, decide_eq_false (by omega)]; rfl
  have hK : keepF ts vs = keepN ts vs m ++ [ts.getD m noTab] := by rw [keepF, hm, keepN, hd, if_neg (by simp)]
  refine ⟨?_, ?_⟩
  · rcases keepN_valid (vs := vs) h (n := ts.length) (Nat.le_refl _) with g | g
    · have : keepF ts vs = [] := g
      rw [hK] at this
      simp at this
    · exact g.1
  · rw [hK, lastT_app, lastT, hm]; rfl
theorem findT_not {n : Int} : ∀ {l : List PTab}, (∀ t ∈ l, t.num ≠ n) → findT n l = none
  | [], _ => rfl
  | t :: l, h => by
    rw [findT, if_neg (h t (by simp))]
    exact findT_not fun u hu => h u (by simp [hu])
theorem keepF_find {ts : List PTab} {vs : List Int} (h : validP ts) {i : Nat} (hi : i < ts.length) : findP (keepF ts vs) (ts.getD i noTab).num = if delB ts.length vs i (ts.getD i noTab) = true then (noTab, 6) else (ts.getD i noTab, 0) := by
  obtain ⟨hK, hlast⟩ := keepF_last (vs := vs) h
  cases hd : delB ts.length vs i (ts.getD i noTab) with
  | false =>
    rw [if_neg (by simp)]
    have hm : ts.getD i noTab ∈ keepF ts vs := keepN_in hd hi
    obtain ⟨k, hk, e⟩ := List.getElem_of_mem hm
    have := hK.find hk
    rw [show (keepF ts vs).getD k noTab = ts.getD i noTab by rw [List.getD_eq_getElem?_getD, List.getElem?_eq_getElem hk]; exact e] at this
    exact this
  | true =>
    rw [if_pos rfl, findP, if_neg (by simp [validB_yes hK]), findT_not fun t ht e => ?_]
    obtain ⟨j, h1, h2, h3⟩ := keepN_mem ht
    have : j = i := by
      rcases Nat.lt_trichotomy j i with g | g | g
      · have := h.lt g hi; rw [← h2] at this; omega
      · exact g
      · have := h.lt g h1; rw [← h2] at this; omega
    subst this
    rw [← h2, h3] at hd
    cases hd
theorem orIn {c : Bool} {vs : List Int} {j : Nat} {x : Int} (hj : j < vs.length) : (c || decide (x ∈ vs.take (j + 1))) = ((c || decide (x ∈ vs.take j)) || (vs.getD j 0 == x)) := by
  rw [take_succ_getD 0 vs j hj]
  generalize vs.getD j 0 = y
  have hm : decide (x ∈ vs.take j ++ [y]) = (decide (x ∈ vs.take j) || (y == x)) := by
    by_cases g : y = x
    · rw [g]; simp
    · have g' : ¬x = y := fun e => g e.symm
      rw [beq_eq_false_iff_ne.2 g]
      simp [g']
  rw [hm, Bool.or_assoc]
theorem lawKeeps (s : List UInt8) (hs : s.length ≤ 140737488355328) : Does Try.prog 6 [.d (dBytes s)] [] (B true) [] [] := by
  refine go_law37_UpdateKeeps rfl BxOK.nil fun cx hm0 => go_in 5000 ?_
  unfold ac_law37_UpdateKeeps rs_law37_UpdateKeeps
  generalize hL : s.take 300 = l
  have hl : l.length ≤ 140737488355328 := by rw [← hL, List.length_take]; omega
  have e0 := dice s hs
  rw [hL] at e0
  obtain ⟨f1, f2, f3⟩ := fldV_ok l 0
  have d1 := (dfield l hl 0).nm1 36000 0 (by omega) rfl rfl rfl rfl rfl
  generalize fldV l 0 = p at *
  generalize pickK l 0 = k1 at *
  have d2 := (dtable l hl k1 p (by omega)).nm1 36000 0 (by omega) rfl rfl rfl rfl rfl
  have okt := tabG_ok l p k1 f1 f2 f3
  generalize (tabG l p k1).2 = k2 at *
  generalize (tabG l p k1).1 = t at *
  have e1 := unew t (okT_check (okt.check (by omega)))
  rw [newP, if_neg (by simp [okt.check (by omega)])] at e1
  simp only [List.map_cons, List.map_nil, eTab] at e1
  have d3 := (pick l hl k2 5 (by omega)).nm1 36000 0 (by omega) rfl rfl rfl rfl rfl
  have a3 := pickV_in l k2 5 (by omega)
  obtain ⟨n, hn⟩ : ∃ n : Nat, pickV l k2 5 = (n : Int) := ⟨(pickV l k2 5).toNat, by omega⟩
  rw [hn] at d3 a3
  generalize pickK l k2 = k3 at *
  repeat' (first | simp (maxSteps := 9999999) only [↓GE, PL, PP, EE, QQ, seval, List.set_cons_zero, List.set_cons_succ, List.replicate, List.length_map] | (simp (disch := omega) only [IntWalk.i64_in]) | (refine go_brD (fun h => ?_) (fun h => ?_)) | (refine go_gsD (by ((try simp only [EE, QQ, seval]) <;> rfl)) (fun h => ?_) (fun h => ?_)) | (refine go_br (fun h => ?_) (fun h => ?_)) | (refine go_gs (by ((try simp only [EE, QQ, seval]) <;> rfl)) (fun h => ?_) (fun h => ?_)) | (apply go_call 5000 (sane37) rfl rfl; (· ((try simp only [CC, LL, NM, EE, QQ, seval]) <;> (first | rfl | ((repeat constructor); done)))); (· exact CallForm.plain rfl); (· ((try simp only [CC, LL, NM, EE, QQ, seval]) <;> (first | rfl | ((repeat constructor); done)))); (· ((try simp only [CC, LL, NM, EE, QQ, seval]) <;> (first | rfl | ((repeat constructor); done))))) | (apply go_call 5000 (e0) rfl rfl; (· ((try simp only [CC, LL, NM, EE, QQ, seval]) <;> (first | rfl | ((repeat constructor); done)))); (· exact CallForm.news rfl rfl); (· ((try simp only [CC, LL, NM, EE, QQ, seval]) <;> (first | rfl | ((repeat constructor); done)))); (· ((try simp only [CC, LL, NM, EE, QQ, seval]) <;> (first | rfl | ((repeat constructor); done))))) | (apply go_call 5000 (d1) rfl rfl; (· ((try simp only [CC, LL, NM, EE, QQ, seval]) <;> (first | rfl | ((repeat constructor); done)))); (· exact CallForm.lent (by (try simp only [CC, LL, NM, EE, QQ, seval]); repeat' (first | trivial | (with_reducible rfl) | omega | (with_reducible apply And.intro) | rfl)) rfl rfl); (· ((try simp only [CC, LL, NM, EE, QQ, seval]) <;> (first | rfl | ((repeat constructor); done)))); (· ((try simp only [CC, LL, NM, EE, QQ, seval]) <;> (first | rfl | ((repeat constructor); done))))) | (apply go_call 5000 (d2) rfl rfl; (· ((try simp only [CC, LL, NM, EE, QQ, seval]) <;> (first | rfl | ((repeat constructor); done)))); (· exact CallForm.lent (by (try simp only [CC, LL, NM, EE, QQ, seval]); repeat' (first | trivial | (with_reducible rfl) | omega | (with_reducible apply And.intro) | rfl)) rfl rfl); (· ((try simp only [CC, LL, NM, EE, QQ, seval]) <;> (first | rfl | ((repeat constructor); done)))); (· ((try simp only [CC, LL, NM, EE, QQ, seval]) <;> (first | rfl | ((repeat constructor); done))))) | (apply go_call 5000 (e1) rfl rfl; (· ((try simp only [CC, LL, NM, EE, QQ, seval]) <;> (first | rfl | ((repeat constructor); done)))); (· exact CallForm.plain rfl); (· ((try simp only [CC, LL, NM, EE, QQ, seval]) <;> (first | rfl | ((repeat constructor); done)))); (· ((try simp only [CC, LL, NM, EE, QQ, seval]) <;> (first | rfl | ((repeat constructor); done))))) | (apply go_call 5000 (d3) rfl rfl; (· ((try simp only [CC, LL, NM, EE, QQ, seval]) <;> (first | rfl | ((repeat constructor); done)))); (· exact CallForm.lent (by (try simp only [CC, LL, NM, EE, QQ, seval]); repeat' (first | trivial | (with_reducible rfl) | omega | (with_reducible apply And.intro) | rfl)) rfl rfl); (· ((try simp only [CC, LL, NM, EE, QQ, seval]) <;> (first | rfl | ((repeat constructor); done)))); (· ((try simp only [CC, LL, NM, EE, QQ, seval]) <;> (first | rfl | ((repeat constructor); done))))) | (with_reducible apply And.intro) | (with_reducible exact trivial) | omega | (simp only [List.length_map, List.length_cons, List.length_nil] at *; omega) | (show _ = true; first | rfl | kernel_rfl))
  refine go_loop 9000 hm0 (ι := {q : Nat × List PTab × Nat × Nat // q.1 ≤ 4 ∧ PubOK q.2.1 (4 - q.1)}) (fun i => [(3, .bp 36000 0 0), (5, .bp 5 0 0), (7, .og 47 i.1.2.2.1), (8, I i.1.1)]) (fun i => [(5, .box 0 [.d (dTabs i.1.2.1)]), (47, .arr i.1.2.2.1 4 true (i.1.2.1.map eTab)), (36000, .box 0 [.d (dBytes l), I i.1.2.2.2])]) (fun i => i.1.1) [] ⟨(n, [t], 0, k3), by omega, ⟨(pub_one okt).valid, by simp, fun u hu => ((pub_one okt).tabs u hu).mono (by omega)⟩⟩ ?_ ?_
  · (simp only [GeS]; refine ⟨?_, ?_, ?_, ?_⟩; all_goals (repeat' (first | trivial | (with_reducible rfl) | simp only [CC, LL, EE, QQ, seval] | (with_reducible apply And.intro) | rfl | (refine ⟨_, rfl, ?_⟩) | (simp [eTab]; done) | omega)))
  clear okt f1 f2 f3 d1 d2 d3 a3 hn e1 e0
  rintro ⟨⟨j, ts, v, k⟩, hj, hok⟩
  simp only at hj hok ⊢
  have hV := hok.valid
  have h1 := hV.1
  have h16 := hV.2.1
  have hT := hV.okTs
  have hs0 := getD_map eTab [] noTab ts (ts.length - 1) (by omega)
  have hlt : ts.length - 1 < ts.length := by omega
  have w1 : IntKind.i64.wrap ((ts.length : Int) - 1) = ((ts.length - 1 : Nat) : Int) := by rw [show (ts.length : Int) - 1 = ((ts.length - 1 : Nat) : Int) by omega]; exact IntWalk.i64_in _ (by omega)
  have hlast : lastT ts = ts.getD (ts.length - 1) noTab := rfl
  by_cases hj0 : 0 < j
  · have q0 : decide ((j : Int) > 0) = true := decide_eq_true (by omega)
    have w0 : IntKind.i64.wrap ((j : Int) - 1) = ((j - 1 : Nat) : Int) := by rw [show (j : Int) - 1 = ((j - 1 : Nat) : Int) by omega]; exact IntWalk.i64_in _ (by omega)
    have e3 := (dchange l hl k (lastT ts) hok.last (by omega)).nm1 36000 0 (by omega) rfl rfl rfl rfl rfl
    obtain ⟨s1, s2, s3⟩ := pub_step l hok (by omega) k
    have e4 := upublish ts (chgG l (lastT ts) k).1 hT (by omega) s3
    rw [s1] at e4
    have hnx := hok.next (by omega) l k
    have hlv := hok.last
    have hol := okT_check (hlv.check (by omega))
    have hlk := laterG_ok l k hlv
    obtain ⟨a1, a2, a4⟩ := laterG_num l k (lastT ts)
    obtain ⟨b1, b2, b3, b4, b5⟩ := leads_small (hlv.check (by omega)) (hlk.check (by omega)) a2.symm a4.symm a1
    have e5 := r15apply (lastT ts) (chgG l (lastT ts) k).1 (by have := hol.1; omega) hol.2 (by omega) s3
    rw [show applyF (lastT ts) (chgG l (lastT ts) k).1 = ((laterG l (lastT ts) k).1, 0) from b3] at e5
    generalize (chgG l (lastT ts) k).2 = k' at *
    generalize (chgG l (lastT ts) k).1 = C at *
    generalize (laterG l (lastT ts) k).1 = u at *
    rw [hlast] at e3 e5
    generalize ts.getD (ts.length - 1) noTab = lt at *
    repeat' (first | simp (maxSteps := 9999999) only [↓GE, PL, PP, EE, QQ, seval, q0, w0, w1, hs0, hlt, eTab, List.length_map] | (simp (disch := omega) only [IntWalk.i64_in]) | (refine go_brD (fun h => ?_) (fun h => ?_)) | (refine go_gsD (by ((try simp only [EE, QQ, seval]) <;> rfl)) (fun h => ?_) (fun h => ?_)) | (refine go_br (fun h => ?_) (fun h => ?_)) | (refine go_gs (by ((try simp only [EE, QQ, seval]) <;> rfl)) (fun h => ?_) (fun h => ?_)) | (apply go_call 5000 (e3) rfl rfl; (· ((try simp only [CC, LL, NM, EE, QQ, seval]) <;> (first | rfl | ((repeat constructor); done)))); (· exact CallForm.lent (by (try simp only [CC, LL, NM, EE, QQ, seval]); repeat' (first | trivial | (with_reducible rfl) | omega | (with_reducible apply And.intro) | rfl)) rfl rfl); (· ((try simp only [CC, LL, NM, EE, QQ, seval]) <;> (first | rfl | ((repeat constructor); done)))); (· ((try simp only [CC, LL, NM, EE, QQ, seval]) <;> (first | rfl | ((repeat constructor); done))))) | (apply go_call 5000 (e4) rfl rfl; (· ((try simp only [CC, LL, NM, EE, QQ, seval]) <;> (first | rfl | ((repeat constructor); done)))); (· exact CallForm.plain rfl); (· ((try simp only [CC, LL, NM, EE, QQ, seval]) <;> (first | rfl | ((repeat constructor); done)))); (· ((try simp only [CC, LL, NM, EE, QQ, seval]) <;> (first | rfl | ((repeat constructor); done))))) | (apply go_call 5000 (e5) rfl rfl; (· ((try simp only [CC, LL, NM, EE, QQ, seval]) <;> (first | rfl | ((repeat constructor); done)))); (· exact CallForm.news rfl rfl); (· ((try simp only [CC, LL, NM, EE, QQ, seval]) <;> (first | rfl | ((repeat constructor); done)))); (· ((try simp only [CC, LL, NM, EE, QQ, seval]) <;> (first | rfl | ((repeat constructor); done))))) | (with_reducible apply And.intro) | (with_reducible exact trivial) | omega | (simp only [List.length_map, List.length_cons, List.length_nil] at *; omega) | (show _ = true; first | rfl | kernel_rfl))
    refine ⟨⟨(j - 1, ts ++ [u], v + 1, k'), by simp only; omega, ⟨hnx.valid, by have := hnx.len; simp only; omega, fun t ht => (hnx.tabs t ht).mono (by omega)⟩⟩, ?_, by simp only; omega⟩
    (simp only [GeS]; refine ⟨?_, ?_, ?_, ?_⟩; all_goals (repeat' (first | trivial | (with_reducible rfl) | simp only [CC, LL, EE, QQ, seval] | (with_reducible apply And.intro) | rfl | (refine ⟨_, rfl, ?_⟩) | (simp [eTab]; done) | omega)))
  · obtain rfl : j = 0 := by omega
    repeat' (first | simp (maxSteps := 9999999) only [↓GE, PL, PP, EE, QQ, seval, List.length_map] | (simp (disch := omega) only [IntWalk.i64_in]) | (refine go_brD (fun h => ?_) (fun h => ?_)) | (refine go_gsD (by ((try simp only [EE, QQ, seval]) <;> rfl)) (fun h => ?_) (fun h => ?_)) | (refine go_br (fun h => ?_) (fun h => ?_)) | (refine go_gs (by ((try simp only [EE, QQ, seval]) <;> rfl)) (fun h => ?_) (fun h => ?_)) | (with_reducible apply And.intro) | (with_reducible exact trivial) | omega | (simp only [List.length_map, List.length_cons, List.length_nil] at *; omega) | (show _ = true; first | rfl | kernel_rfl))
    refine go_loop 9000 hm0 (ι := {q : Nat × List Int × Nat × Nat // q.1 ≤ ts.length ∧ q.2.1.length ≤ q.1}) (fun i => [(3, .bp 36000 0 0), (5, .bp 5 0 0), (7, .og 47 v), (14, .og 101 i.1.2.2.1), (88, .og 47 v), (89, I ts.length), (90, I i.1.1)]) (fun i => [(5, .box 0 [.d (dTabs ts)]), (47, .arr v 4 true (ts.map eTab)), (101, .arr i.1.2.2.1 1 true (i.1.2.1.map eI)), (36000, .box 0 [.d (dBytes l), I i.1.2.2.2])]) (fun i => ts.length - i.1.1) [101] ⟨(0, [], 0, k), Nat.zero_le _, Nat.le_refl _⟩ ?_ ?_
    · (simp only [GeS]; refine ⟨?_, ?_, ?_, ?_⟩; all_goals (repeat' (first | trivial | (with_reducible rfl) | simp only [CC, LL, EE, QQ, seval] | (with_reducible apply And.intro) | rfl | (refine ⟨_, rfl, ?_⟩) | (simp; done) | omega)))
    · rintro ⟨⟨i, ks, v2, k2⟩, hi, hks⟩
      simp only at hi hks ⊢
      by_cases hil : i < ts.length
      · have hs1 := getD_map eTab [] noTab ts i hil
        have e3 := (pick l hl k2 2 (by omega)).nm1 36000 0 (by omega) rfl rfl rfl rfl rfl
        generalize pickV l k2 2 = x at *
        generalize pickK l k2 = k4 at *
        generalize ts.getD i noTab = t at *
        by_cases hx : x = 0
        · subst hx
          repeat' (first | simp (maxSteps := 9999999) only [↓GE, PL, PP, EE, QQ, seval, hs1, hil, eTab, List.length_map] | (simp (disch := omega) only [IntWalk.i64_in]) | (refine go_brD (fun h => ?_) (fun h => ?_)) | (refine go_gsD (by ((try simp only [EE, QQ, seval]) <;> rfl)) (fun h => ?_) (fun h => ?_)) | (refine go_br (fun h => ?_) (fun h => ?_)) | (refine go_gs (by ((try simp only [EE, QQ, seval]) <;> rfl)) (fun h => ?_) (fun h => ?_)) | (apply go_call 5000 (e3) rfl rfl; (· ((try simp only [CC, LL, NM, EE, QQ, seval]) <;> (first | rfl | ((repeat constructor); done)))); (· exact CallForm.lent (by (try simp only [CC, LL, NM, EE, QQ, seval]); repeat' (first | trivial | (with_reducible rfl) | omega | (with_reducible apply And.intro) | rfl)) rfl rfl); (· ((try simp only [CC, LL, NM, EE, QQ, seval]) <;> (first | rfl | ((repeat constructor); done)))); (· ((try simp only [CC, LL, NM, EE, QQ, seval]) <;> (first | rfl | ((repeat constructor); done))))) | (with_reducible apply And.intro) | (with_reducible exact trivial) | omega | (simp only [List.length_map, List.length_cons, List.length_nil] at *; omega) | (show _ = true; first | rfl | kernel_rfl))
          refine ⟨⟨(i + 1, ks ++ [t.num], v2 + 1, k4), hil, by simp; omega⟩, ?_, by simp only; omega⟩
          (simp only [GeS]; refine ⟨?_, ?_, ?_, ?_⟩; all_goals (repeat' (first | trivial | (with_reducible rfl) | simp only [CC, LL, EE, QQ, seval] | (with_reducible apply And.intro) | rfl | (refine ⟨_, rfl, ?_⟩) | (simp [eI]; done) | omega)))
        · have q : (x == 0) = false := by rw [beq_eq_false_iff_ne]; exact hx
          repeat' (first | simp (maxSteps := 9999999) only [↓GE, PL, PP, EE, QQ, seval, hs1, hil, q, eTab, List.length_map] | (simp (disch := omega) only [IntWalk.i64_in]) | (refine go_brD (fun h => ?_) (fun h => ?_)) | (refine go_gsD (by ((try simp only [EE, QQ, seval]) <;> rfl)) (fun h => ?_) (fun h => ?_)) | (refine go_br (fun h => ?_) (fun h => ?_)) | (refine go_gs (by ((try simp only [EE, QQ, seval]) <;> rfl)) (fun h => ?_) (fun h => ?_)) | (apply go_call 5000 (e3) rfl rfl; (· ((try simp only [CC, LL, NM, EE, QQ, seval]) <;> (first | rfl | ((repeat constructor); done)))); (· exact CallForm.lent (by (try simp only [CC, LL, NM, EE, QQ, seval]); repeat' (first | trivial | (with_reducible rfl) | omega | (with_reducible apply And.intro) | rfl)) rfl rfl); (· ((try simp only [CC, LL, NM, EE, QQ, seval]) <;> (first | rfl | ((repeat constructor); done)))); (· ((try simp only [CC, LL, NM, EE, QQ, seval]) <;> (first | rfl | ((repeat constructor); done))))) | (with_reducible apply And.intro) | (with_reducible exact trivial) | omega | (simp only [List.length_map, List.length_cons, List.length_nil] at *; omega) | (show _ = true; first | rfl | kernel_rfl))
          refine ⟨⟨(i + 1, ks, v2, k4), hil, by simp only; omega⟩, ?_, by simp only; omega⟩
          (simp only [GeS]; refine ⟨?_, ?_, ?_, ?_⟩; all_goals (repeat' (first | trivial | (with_reducible rfl) | simp only [CC, LL, EE, QQ, seval] | (with_reducible apply And.intro) | rfl | (refine ⟨_, rfl, ?_⟩) | (simp; done) | omega)))
      · obtain rfl : i = ts.length := by omega
        clear hil
        obtain ⟨hK, hKl⟩ := keepF_last (vs := ks) hV
        have hKT := hK.okTs
        have hfind := fun i (hi : i < ts.length) => keepF_find (vs := ks) hV hi
        have e3 := ukeep ts ks hT (by omega)
        generalize keepF ts ks = K at *
        have e4 := uvalid ts hT
        rw [validB_yes hV] at e4
        have e5 := uvalid K hKT
        rw [validB_yes hK] at e5
        have hufind := fun x => ufind K x hKT
        have hubtw := fun a b => ubetween ts a b hT
        have hulast := unewest K hKT
        rw [newestF, if_neg (by simp [validB_yes hK]), hKl] at hulast
        repeat' (first | simp (maxSteps := 9999999) only [↓GE, PL, PP, EE, QQ, seval, List.length_map] | (simp (disch := omega) only [IntWalk.i64_in]) | (refine go_brD (fun h => ?_) (fun h => ?_)) | (refine go_gsD (by ((try simp only [EE, QQ, seval]) <;> rfl)) (fun h => ?_) (fun h => ?_)) | (refine go_br (fun h => ?_) (fun h => ?_)) | (refine go_gs (by ((try simp only [EE, QQ, seval]) <;> rfl)) (fun h => ?_) (fun h => ?_)) | (apply go_call 5000 (e3) rfl rfl; (· ((try simp only [CC, LL, NM, EE, QQ, seval]) <;> (first | rfl | ((repeat constructor); done)))); (· exact CallForm.plain rfl); (· ((try simp only [CC, LL, NM, EE, QQ, seval]) <;> (first | rfl | ((repeat constructor); done)))); (· ((try simp only [CC, LL, NM, EE, QQ, seval]) <;> (first | rfl | ((repeat constructor); done))))) | (apply go_call 5000 (e4) rfl rfl; (· ((try simp only [CC, LL, NM, EE, QQ, seval]) <;> (first | rfl | ((repeat constructor); done)))); (· exact CallForm.plain rfl); (· ((try simp only [CC, LL, NM, EE, QQ, seval]) <;> (first | rfl | ((repeat constructor); done)))); (· ((try simp only [CC, LL, NM, EE, QQ, seval]) <;> (first | rfl | ((repeat constructor); done))))) | (apply go_call 5000 (e5) rfl rfl; (· ((try simp only [CC, LL, NM, EE, QQ, seval]) <;> (first | rfl | ((repeat constructor); done)))); (· exact CallForm.plain rfl); (· ((try simp only [CC, LL, NM, EE, QQ, seval]) <;> (first | rfl | ((repeat constructor); done)))); (· ((try simp only [CC, LL, NM, EE, QQ, seval]) <;> (first | rfl | ((repeat constructor); done))))) | (with_reducible apply And.intro) | (with_reducible exact trivial) | omega | (simp only [List.length_map, List.length_cons, List.length_nil] at *; omega) | (show _ = true; first | rfl | kernel_rfl))
        refine go_loop 9000 hm0 (ι := {i : Nat // i ≤ ts.length}) (fun i => [(5, .bp 5 0 0), (7, .og 47 v), (14, .og 101 v2), (17, .bp 17 0 0), (114, .og 47 v), (115, I ts.length), (116, I i.1)]) (fun i => [(5, .box 0 [.d (dTabs ts)]), (17, .box 0 [.d (dTabs K)]), (47, .arr v 4 true (ts.map eTab)), (101, .arr v2 1 false (ks.map eI))]) (fun i => ts.length - i.1) [] ⟨0, Nat.zero_le _⟩ ?_ ?_
        · (simp only [GeS]; refine ⟨?_, ?_, ?_, ?_⟩; all_goals (repeat' (first | trivial | (with_reducible rfl) | simp only [CC, LL, EE, QQ, seval] | (with_reducible apply And.intro) | rfl | (refine ⟨_, rfl, ?_⟩) | (simp; done) | omega)))
        · rintro ⟨i, hi⟩
          simp only
          by_cases hil : i < ts.length
          · have hs1 := getD_map eTab [] noTab ts i hil
            have w2 : IntKind.i64.wrap ((i : Int) + 1) = (i : Int) + 1 := IntWalk.i64_in _ (by omega)
            have hb : ((i : Int) + 1 == (ts.length : Int)) = !decide (i + 1 < ts.length) := by
              by_cases g : i + 1 < ts.length
              · rw [decide_eq_true g]; simp; omega
              · rw [decide_eq_false g]; simp; omega
            have hf := hfind i hil
            have e6 := hufind (ts.getD i noTab).num
            have e7 := hubtw (ts.getD i noTab).num (ts.getD (ts.length - 1) noTab).num
            have hbt := fun (g : i + 1 < ts.length) => hV.btw (show i < ts.length - 1 by omega) hlt
            have o1 := hT.get hil
            have o2 := hT.get hlt
            rw [hf] at e6
            have e8 := r14same (ts.getD i noTab) (ts.getD i noTab) (by have := o1.1; omega) (by have := o1.1; omega) o1.2 o1.2
            rw [sameT_iff, decide_eq_true rfl] at e8
            have e9 := r14same (ts.getD (ts.length - 1) noTab) (ts.getD (ts.length - 1) noTab) (by have := o2.1; omega) (by have := o2.1; omega) o2.2 o2.2
            rw [sameT_iff, decide_eq_true rfl] at e9
            have e10 := fun (g : i + 1 < ts.length) => by
              have g2 := hbt g
              have := r15apply (ts.getD i noTab) (btwP ts (ts.getD i noTab).num (ts.getD (ts.length - 1) noTab).num).1 (by have := o1.1; omega) o1.2 (by omega) g2.2.2.2.2
              rw [g2.2.2.1] at this
              exact this
            have hz := fun (g : i + 1 < ts.length) => (hbt g).1
            clear hf hfind hufind hubtw hbt hulast e3 e4 e5
            generalize (btwP ts (ts.getD i noTab).num (ts.getD (ts.length - 1) noTab).num).2 = ce at *
            generalize (btwP ts (ts.getD i noTab).num (ts.getD (ts.length - 1) noTab).num).1 = C at *
            have hdel : delB ts.length ks i (ts.getD i noTab) = !(!decide (i + 1 < ts.length) || decide ((ts.getD i noTab).num ∈ ks)) := by
              unfold delB; cases decide (i + 1 < ts.length) <;> cases decide ((ts.getD i noTab).num ∈ ks) <;> rfl
            rw [hdel] at e6
            clear hdel
            generalize ts.getD (ts.length - 1) noTab = lt at *
            generalize ts.getD i noTab = t at *
            repeat' (first | simp (maxSteps := 9999999) only [↓GE, PL, PP, EE, QQ, seval, w2, hs1, hil, eTab, List.length_map] | (simp (disch := omega) only [IntWalk.i64_in]) | (refine go_brD (fun h => ?_) (fun h => ?_)) | (refine go_gsD (by ((try simp only [EE, QQ, seval]) <;> rfl)) (fun h => ?_) (fun h => ?_)) | (refine go_br (fun h => ?_) (fun h => ?_)) | (refine go_gs (by ((try simp only [EE, QQ, seval]) <;> rfl)) (fun h => ?_) (fun h => ?_)) | (with_reducible apply And.intro) | (with_reducible exact trivial) | omega | (simp only [List.length_map, List.length_cons, List.length_nil] at *; omega) | (show _ = true; first | rfl | kernel_rfl))
            refine go_loop 9000 hm0 (ι := {j : Nat // j ≤ ks.length}) (fun x => [(5, .bp 5 0 0), (7, .og 47 v), (14, .og 101 v2), (17, .bp 17 0 0), (18, I i), (19, .bp 19 0 0), (20, B (!decide (i + 1 < ts.length) || decide (t.num ∈ ks.take x.1))), (114, .og 47 v), (115, I ts.length), (116, I i), (126, .og 101 v2), (127, I ks.length), (128, I x.1)]) (fun x => [(5, .box 0 [.d (dTabs ts)]), (17, .box 0 [.d (dTabs K)]), (19, .box 0 [I t.num, I t.p, I t.width, .d (dRows t.rows)]), (47, .arr v 4 true (ts.map eTab)), (101, .arr v2 1 false (ks.map eI))]) (fun x => ks.length - x.1) [] ⟨0, Nat.zero_le _⟩ ?_ ?_
            · (simp only [GeS]; refine ⟨?_, ?_, ?_, ?_⟩; all_goals (repeat' (first | trivial | (with_reducible rfl) | simp only [CC, LL, EE, QQ, seval] | (with_reducible apply And.intro) | rfl | (refine ⟨_, rfl, ?_⟩) | (simp [hb]; done) | omega)))
            · rintro ⟨j, hj⟩
              simp only
              by_cases hjk : j < ks.length
              · have hs2 := getD_map eI [] 0 ks j hjk
                have hB := orIn (c := !decide (i + 1 < ts.length)) (x := t.num) hjk
                generalize ks.getD j 0 = y at *
                generalize hc : (!decide (i + 1 < ts.length) || decide (t.num ∈ ks.take j)) = c at *
                cases c with
                | true =>
                  rw [Bool.true_or] at hB
                  repeat' (first | simp (maxSteps := 9999999) only [↓GE, PL, PP, EE, QQ, seval, hs2, hjk, eI, List.length_map] | (simp (disch := omega) only [IntWalk.i64_in]) | (refine go_brD (fun h => ?_) (fun h => ?_)) | (refine go_gsD (by ((try simp only [EE, QQ, seval]) <;> rfl)) (fun h => ?_) (fun h => ?_)) | (refine go_br (fun h => ?_) (fun h => ?_)) | (refine go_gs (by ((try simp only [EE, QQ, seval]) <;> rfl)) (fun h => ?_) (fun h => ?_)) | (with_reducible apply And.intro) | (with_reducible exact trivial) | omega | (simp only [List.length_map, List.length_cons, List.length_nil] at *; omega) | (show _ = true; first | rfl | kernel_rfl))
                  refine ⟨⟨j + 1, hjk⟩, ?_, by simp only; omega⟩
                  (simp only [GeS]; refine ⟨?_, ?_, ?_, ?_⟩; all_goals (repeat' (first | trivial | (with_reducible rfl) | simp only [CC, LL, EE, QQ, seval] | (with_reducible apply And.intro) | rfl | (refine ⟨_, rfl, ?_⟩) | (simp [hB]; done) | omega)))
                | false =>
                  rw [Bool.false_or] at hB
                  repeat' (first | simp (maxSteps := 9999999) only [↓GE, PL, PP, EE, QQ, seval, hs2, hjk, eI, List.length_map] | (simp (disch := omega) only [IntWalk.i64_in]) | (refine go_brD (fun h => ?_) (fun h => ?_)) | (refine go_gsD (by ((try simp only [EE, QQ, seval]) <;> rfl)) (fun h => ?_) (fun h => ?_)) | (refine go_br (fun h => ?_) (fun h => ?_)) | (refine go_gs (by ((try simp only [EE, QQ, seval]) <;> rfl)) (fun h => ?_) (fun h => ?_)) | (with_reducible apply And.intro) | (with_reducible exact trivial) | omega | (simp only [List.length_map, List.length_cons, List.length_nil] at *; omega) | (show _ = true; first | rfl | kernel_rfl))
                  refine ⟨⟨j + 1, hjk⟩, ?_, by simp only; omega⟩
                  (simp only [GeS]; refine ⟨?_, ?_, ?_, ?_⟩; all_goals (repeat' (first | trivial | (with_reducible rfl) | simp only [CC, LL, EE, QQ, seval] | (with_reducible apply And.intro) | rfl | (refine ⟨_, rfl, ?_⟩) | (simp [hB]; done) | omega)))
              · obtain rfl : j = ks.length := by omega
                rw [List.take_length]
                have qt : (true != true) = false := rfl
                have qf : (false != false) = false := rfl
                by_cases g : i + 1 < ts.length
                · have q : decide ((i : Int) + 1 < (ts.length : Int)) = true := decide_eq_true (by omega)
                  have e11 := e10 g
                  rw [hz g] at e7
                  generalize (!decide (i + 1 < ts.length) || decide (t.num ∈ ks)) = kp at *
                  cases kp with
                  | true =>
                    rw [if_neg (by decide)] at e6
                    repeat' (first | simp (maxSteps := 9999999) only [↓GE, PL, PP, EE, QQ, seval, qt, qf, w1, w2, q, hs0, hlt, eTab, List.length_map] | (simp (disch := omega) only [IntWalk.i64_in]) | (refine go_brD (fun h => ?_) (fun h => ?_)) | (refine go_gsD (by ((try simp only [EE, QQ, seval]) <;> rfl)) (fun h => ?_) (fun h => ?_)) | (refine go_br (fun h => ?_) (fun h => ?_)) | (refine go_gs (by ((try simp only [EE, QQ, seval]) <;> rfl)) (fun h => ?_) (fun h => ?_)) | (apply go_call 5000 (e6) rfl rfl; (· ((try simp only [CC, LL, NM, EE, QQ, seval]) <;> (first | rfl | ((repeat constructor); done)))); (· exact CallForm.plain rfl); (· ((try simp only [CC, LL, NM, EE, QQ, seval]) <;> (first | rfl | ((repeat constructor); done)))); (· ((try simp only [CC, LL, NM, EE, QQ, seval]) <;> (first | rfl | ((repeat constructor); done))))) | (apply go_call 5000 (e8) rfl rfl; (· ((try simp only [CC, LL, NM, EE, QQ, seval]) <;> (first | rfl | ((repeat constructor); done)))); (· exact CallForm.plain rfl); (· ((try simp only [CC, LL, NM, EE, QQ, seval]) <;> (first | rfl | ((repeat constructor); done)))); (· ((try simp only [CC, LL, NM, EE, QQ, seval]) <;> (first | rfl | ((repeat constructor); done))))) | (apply go_call 5000 (e7) rfl rfl; (· ((try simp only [CC, LL, NM, EE, QQ, seval]) <;> (first | rfl | ((repeat constructor); done)))); (· exact CallForm.plain rfl); (· ((try simp only [CC, LL, NM, EE, QQ, seval]) <;> (first | rfl | ((repeat constructor); done)))); (· ((try simp only [CC, LL, NM, EE, QQ, seval]) <;> (first | rfl | ((repeat constructor); done))))) | (apply go_call 5000 (e11) rfl rfl; (· ((try simp only [CC, LL, NM, EE, QQ, seval]) <;> (first | rfl | ((repeat constructor); done)))); (· exact CallForm.news rfl rfl); (· ((try simp only [CC, LL, NM, EE, QQ, seval]) <;> (first | rfl | ((repeat constructor); done)))); (· ((try simp only [CC, LL, NM, EE, QQ, seval]) <;> (first | rfl | ((repeat constructor); done))))) | (apply go_call 5000 (e9) rfl rfl; (· ((try simp only [CC, LL, NM, EE, QQ, seval]) <;> (first | rfl | ((repeat constructor); done)))); (· exact CallForm.plain rfl); (· ((try simp only [CC, LL, NM, EE, QQ, seval]) <;> (first | rfl | ((repeat constructor); done)))); (· ((try simp only [CC, LL, NM, EE, QQ, seval]) <;> (first | rfl | ((repeat constructor); done))))) | (with_reducible apply And.intro) | (with_reducible exact trivial) | omega | (simp only [List.length_map, List.length_cons, List.length_nil] at *; omega) | (show _ = true; first | rfl | kernel_rfl))
                    refine ⟨⟨i + 1, hil⟩, ?_, by simp only; omega⟩
                    (simp only [GeS]; refine ⟨?_, ?_, ?_, ?_⟩; all_goals (repeat' (first | trivial | (with_reducible rfl) | simp only [CC, LL, EE, QQ, seval] | (with_reducible apply And.intro) | rfl | (refine ⟨_, rfl, ?_⟩) | (simp; done) | omega)))
                  | false =>
                    rw [if_pos (by decide)] at e6
                    repeat' (first | simp (maxSteps := 9999999) only [↓GE, PL, PP, EE, QQ, seval, qt, qf, w1, w2, q, hs0, hlt, eTab, List.length_map] | (simp (disch := omega) only [IntWalk.i64_in]) | (refine go_brD (fun h => ?_) (fun h => ?_)) | (refine go_gsD (by ((try simp only [EE, QQ, seval]) <;> rfl)) (fun h => ?_) (fun h => ?_)) | (refine go_br (fun h => ?_) (fun h => ?_)) | (refine go_gs (by ((try simp only [EE, QQ, seval]) <;> rfl)) (fun h => ?_) (fun h => ?_)) | (apply go_call 5000 (e6) rfl rfl; (· ((try simp only [CC, LL, NM, EE, QQ, seval]) <;> (first | rfl | ((repeat constructor); done)))); (· exact CallForm.plain rfl); (· ((try simp only [CC, LL, NM, EE, QQ, seval]) <;> (first | rfl | ((repeat constructor); done)))); (· ((try simp only [CC, LL, NM, EE, QQ, seval]) <;> (first | rfl | ((repeat constructor); done))))) | (apply go_call 5000 (e8) rfl rfl; (· ((try simp only [CC, LL, NM, EE, QQ, seval]) <;> (first | rfl | ((repeat constructor); done)))); (· exact CallForm.plain rfl); (· ((try simp only [CC, LL, NM, EE, QQ, seval]) <;> (first | rfl | ((repeat constructor); done)))); (· ((try simp only [CC, LL, NM, EE, QQ, seval]) <;> (first | rfl | ((repeat constructor); done))))) | (apply go_call 5000 (e7) rfl rfl; (· ((try simp only [CC, LL, NM, EE, QQ, seval]) <;> (first | rfl | ((repeat constructor); done)))); (· exact CallForm.plain rfl); (· ((try simp only [CC, LL, NM, EE, QQ, seval]) <;> (first | rfl | ((repeat constructor); done)))); (· ((try simp only [CC, LL, NM, EE, QQ, seval]) <;> (first | rfl | ((repeat constructor); done))))) | (apply go_call 5000 (e11) rfl rfl; (· ((try simp only [CC, LL, NM, EE, QQ, seval]) <;> (first | rfl | ((repeat constructor); done)))); (· exact CallForm.news rfl rfl); (· ((try simp only [CC, LL, NM, EE, QQ, seval]) <;> (first | rfl | ((repeat constructor); done)))); (· ((try simp only [CC, LL, NM, EE, QQ, seval]) <;> (first | rfl | ((repeat constructor); done))))) | (apply go_call 5000 (e9) rfl rfl; (· ((try simp only [CC, LL, NM, EE, QQ, seval]) <;> (first | rfl | ((repeat constructor); done)))); (· exact CallForm.plain rfl); (· ((try simp only [CC, LL, NM, EE, QQ, seval]) <;> (first | rfl | ((repeat constructor); done)))); (· ((try simp only [CC, LL, NM, EE, QQ, seval]) <;> (first | rfl | ((repeat constructor); done))))) | (with_reducible apply And.intro) | (with_reducible exact trivial) | omega | (simp only [List.length_map, List.length_cons, List.length_nil] at *; omega) | (show _ = true; first | rfl | kernel_rfl))
                    refine ⟨⟨i + 1, hil⟩, ?_, by simp only; omega⟩
                    (simp only [GeS]; refine ⟨?_, ?_, ?_, ?_⟩; all_goals (repeat' (first | trivial | (with_reducible rfl) | simp only [CC, LL, EE, QQ, seval] | (with_reducible apply And.intro) | rfl | (refine ⟨_, rfl, ?_⟩) | (simp; done) | omega)))
                · have q : decide ((i : Int) + 1 < (ts.length : Int)) = false := decide_eq_false (by omega)
                  generalize (!decide (i + 1 < ts.length) || decide (t.num ∈ ks)) = kp at *
                  cases kp with
                  | true =>
                    rw [if_neg (by decide)] at e6
                    repeat' (first | simp (maxSteps := 9999999) only [↓GE, PL, PP, EE, QQ, seval, qt, qf, w1, w2, q, hs0, hlt, eTab, List.length_map] | (simp (disch := omega) only [IntWalk.i64_in]) | (refine go_brD (fun h => ?_) (fun h => ?_)) | (refine go_gsD (by ((try simp only [EE, QQ, seval]) <;> rfl)) (fun h => ?_) (fun h => ?_)) | (refine go_br (fun h => ?_) (fun h => ?_)) | (refine go_gs (by ((try simp only [EE, QQ, seval]) <;> rfl)) (fun h => ?_) (fun h => ?_)) | (apply go_call 5000 (e6) rfl rfl; (· ((try simp only [CC, LL, NM, EE, QQ, seval]) <;> (first | rfl | ((repeat constructor); done)))); (· exact CallForm.plain rfl); (· ((try simp only [CC, LL, NM, EE, QQ, seval]) <;> (first | rfl | ((repeat constructor); done)))); (· ((try simp only [CC, LL, NM, EE, QQ, seval]) <;> (first | rfl | ((repeat constructor); done))))) | (apply go_call 5000 (e8) rfl rfl; (· ((try simp only [CC, LL, NM, EE, QQ, seval]) <;> (first | rfl | ((repeat constructor); done)))); (· exact CallForm.plain rfl); (· ((try simp only [CC, LL, NM, EE, QQ, seval]) <;> (first | rfl | ((repeat constructor); done)))); (· ((try simp only [CC, LL, NM, EE, QQ, seval]) <;> (first | rfl | ((repeat constructor); done))))) | (apply go_call 5000 (e7) rfl rfl; (· ((try simp only [CC, LL, NM, EE, QQ, seval]) <;> (first | rfl | ((repeat constructor); done)))); (· exact CallForm.plain rfl); (· ((try simp only [CC, LL, NM, EE, QQ, seval]) <;> (first | rfl | ((repeat constructor); done)))); (· ((try simp only [CC, LL, NM, EE, QQ, seval]) <;> (first | rfl | ((repeat constructor); done))))) | (with_reducible apply And.intro) | (with_reducible exact trivial) | omega | (simp only [List.length_map, List.length_cons, List.length_nil] at *; omega) | (show _ = true; first | rfl | kernel_rfl))
                    refine ⟨⟨i + 1, hil⟩, ?_, by simp only; omega⟩
                    (simp only [GeS]; refine ⟨?_, ?_, ?_, ?_⟩; all_goals (repeat' (first | trivial | (with_reducible rfl) | simp only [CC, LL, EE, QQ, seval] | (with_reducible apply And.intro) | rfl | (refine ⟨_, rfl, ?_⟩) | (simp; done) | omega)))
                  | false =>
                    rw [if_pos (by decide)] at e6
                    repeat' (first | simp (maxSteps := 9999999) only [↓GE, PL, PP, EE, QQ, seval, qt, qf, w1, w2, q, hs0, hlt, eTab, List.length_map] | (simp (disch := omega) only [IntWalk.i64_in]) | (refine go_brD (fun h => ?_) (fun h => ?_)) | (refine go_gsD (by ((try simp only [EE, QQ, seval]) <;> rfl)) (fun h => ?_) (fun h => ?_)) | (refine go_br (fun h => ?_) (fun h => ?_)) | (refine go_gs (by ((try simp only [EE, QQ, seval]) <;> rfl)) (fun h => ?_) (fun h => ?_)) | (apply go_call 5000 (e6) rfl rfl; (· ((try simp only [CC, LL, NM, EE, QQ, seval]) <;> (first | rfl | ((repeat constructor); done)))); (· exact CallForm.plain rfl); (· ((try simp only [CC, LL, NM, EE, QQ, seval]) <;> (first | rfl | ((repeat constructor); done)))); (· ((try simp only [CC, LL, NM, EE, QQ, seval]) <;> (first | rfl | ((repeat constructor); done))))) | (apply go_call 5000 (e8) rfl rfl; (· ((try simp only [CC, LL, NM, EE, QQ, seval]) <;> (first | rfl | ((repeat constructor); done)))); (· exact CallForm.plain rfl); (· ((try simp only [CC, LL, NM, EE, QQ, seval]) <;> (first | rfl | ((repeat constructor); done)))); (· ((try simp only [CC, LL, NM, EE, QQ, seval]) <;> (first | rfl | ((repeat constructor); done))))) | (apply go_call 5000 (e7) rfl rfl; (· ((try simp only [CC, LL, NM, EE, QQ, seval]) <;> (first | rfl | ((repeat constructor); done)))); (· exact CallForm.plain rfl); (· ((try simp only [CC, LL, NM, EE, QQ, seval]) <;> (first | rfl | ((repeat constructor); done)))); (· ((try simp only [CC, LL, NM, EE, QQ, seval]) <;> (first | rfl | ((repeat constructor); done))))) | (with_reducible apply And.intro) | (with_reducible exact trivial) | omega | (simp only [List.length_map, List.length_cons, List.length_nil] at *; omega) | (show _ = true; first | rfl | kernel_rfl))
                    refine ⟨⟨i + 1, hil⟩, ?_, by simp only; omega⟩
                    (simp only [GeS]; refine ⟨?_, ?_, ?_, ?_⟩; all_goals (repeat' (first | trivial | (with_reducible rfl) | simp only [CC, LL, EE, QQ, seval] | (with_reducible apply And.intro) | rfl | (refine ⟨_, rfl, ?_⟩) | (simp; done) | omega)))
          · obtain rfl : i = ts.length := by omega
            have o2 := hT.get hlt
            have e9 := r14same (ts.getD (ts.length - 1) noTab) (ts.getD (ts.length - 1) noTab) (by have := o2.1; omega) (by have := o2.1; omega) o2.2 o2.2
            rw [sameT_iff, decide_eq_true rfl] at e9
            rw [hlast] at hulast
            generalize ts.getD (ts.length - 1) noTab = lt at *
            repeat' (first | simp (maxSteps := 9999999) only [↓GE, PL, PP, EE, QQ, seval, w1, hs0, hlt, eTab, List.length_map] | (simp (disch := omega) only [IntWalk.i64_in]) | (refine go_brD (fun h => ?_) (fun h => ?_)) | (refine go_gsD (by ((try simp only [EE, QQ, seval]) <;> rfl)) (fun h => ?_) (fun h => ?_)) | (refine go_br (fun h => ?_) (fun h => ?_)) | (refine go_gs (by ((try simp only [EE, QQ, seval]) <;> rfl)) (fun h => ?_) (fun h => ?_)) | (apply go_call 5000 (hulast) rfl rfl; (· ((try simp only [CC, LL, NM, EE, QQ, seval]) <;> (first | rfl | ((repeat constructor); done)))); (· exact CallForm.plain rfl); (· ((try simp only [CC, LL, NM, EE, QQ, seval]) <;> (first | rfl | ((repeat constructor); done)))); (· ((try simp only [CC, LL, NM, EE, QQ, seval]) <;> (first | rfl | ((repeat constructor); done))))) | (apply go_call 5000 (e9) rfl rfl; (· ((try simp only [CC, LL, NM, EE, QQ, seval]) <;> (first | rfl | ((repeat constructor); done)))); (· exact CallForm.plain rfl); (· ((try simp only [CC, LL, NM, EE, QQ, seval]) <;> (first | rfl | ((repeat constructor); done)))); (· ((try simp only [CC, LL, NM, EE, QQ, seval]) <;> (first | rfl | ((repeat constructor); done))))) | (with_reducible apply And.intro) | (with_reducible exact trivial) | omega | (simp only [List.length_map, List.length_cons, List.length_nil] at *; omega) | (show _ = true; first | rfl | kernel_rfl))
            all_goals ((first | apply ret_mk [] | apply end_mk []); (· ((try simp only [CC, LL, EE, QQ, seval]) <;> rfl)); (· ((try simp only [CC, LL, EE, QQ, seval]) <;> repeat' (first | (with_reducible apply And.intro) | rfl | trivial | (exact ⟨_, rfl⟩) | (exact ⟨_, _, _, rfl⟩) | (simp [*, ]; done) | (simp [*, ]; omega) | (simp_all []; done) | (simp_all []; omega)))); all_goals (first | trivial | decide | ((try simp only [CC, LL, EE, QQ, seval]) <;> repeat' (first | (with_reducible apply And.intro) | (exact ⟨_, rfl, rfl, rfl⟩) | (exact ⟨_, _, _, rfl⟩) | (exact ⟨_, rfl⟩) | trivial | rfl | (simp; done)))))
end Go.Proofs.Ytilkjcobkdjlkaa.Sim
