/- Publishers out of dice; UpdateJoins, walked. -/
import Derived.Test.YtilkjcobkdjlkaaUpE
import Derived.Test.YtilkjcobkdjlkaaUpF
namespace Go.Proofs.Ytilkjcobkdjlkaa.Sim
open Go
set_option maxRecDepth 100000
set_option maxHeartbeats 8000000
set_option linter.unusedVariables false
set_option linter.unusedSimpArgs false
attribute [local irreducible] Go Mean
theorem formF_len2 {c : PChg} (h : formF c = true) : c.sets.length ≤ 1024 := by
  obtain ⟨f1, f2, f3, f4, f5, f6⟩ := formF_ok h
  have := formGo_len f6 (by omega)
  omega
theorem leads_small {a b : PTab} (ha : checkT a = 0) (hb : checkT b = 0) (hp : a.p = b.p) (hw : a.width = b.width) (hn : a.num < b.num) : (betweenF a b).2 = 0 ∧ checkC a (betweenF a b).1 = 0 ∧ applyF a (betweenF a b).1 = (b, 0) ∧ (betweenF a b).1.sets.length ≤ 1024 ∧ ShortS (betweenF a b).1.sets := by
  obtain ⟨b1, b2⟩ := between_leads ha hb hp hw hn
  rw [b1]
  obtain ⟨c1, c2⟩ := b2.apply ha hp.symm hw.symm
  obtain ⟨_, _, _, _, _, hw2, _⟩ := checkT_ok ha
  exact ⟨rfl, c1, c2, formF_len2 b2.form, fun s hs => by have := (b2.rows s hs).1; omega⟩
/-- Publishers that dice make. -/
structure PubOK (ts : List PTab) (n : Nat) : Prop where
  valid : validP ts
  len : ts.length ≤ n + 1
  tabs : ∀ t ∈ ts, TabOK t n
theorem PubOK.last {ts : List PTab} {n : Nat} (h : PubOK ts n) : TabOK (lastT ts) n := h.tabs _ (mem_getD _ _ _ (by have := h.valid.1; omega))
theorem PubOK.next {ts : List PTab} {n : Nat} (h : PubOK ts n) (hn : n ≤ 10) (l : List UInt8) (k : Nat) : PubOK (ts ++ [(laterG l (lastT ts) k).1]) (n + 1) := by
  have hl := h.last
  have hok := laterG_ok l k hl
  obtain ⟨a1, a2, a3⟩ := laterG_num l k (lastT ts)
  refine ⟨h.valid.app (hok.check (by omega)) a2 a3 a1 (by have := h.len; omega), by have := h.len; simp; omega, fun t ht => ?_⟩
  rcases List.mem_append.1 ht with ht | ht
  · exact (h.tabs t ht).mono (by omega)
  · simp only [List.mem_singleton] at ht
    subst ht; exact hok
theorem pub_step (l : List UInt8) {ts : List PTab} {n : Nat} (h : PubOK ts n) (hn : n ≤ 10) (k : Nat) : pubF ts (chgG l (lastT ts) k).1 = (ts ++ [(laterG l (lastT ts) k).1], 0) ∧ (chgG l (lastT ts) k).1.sets.length ≤ 1024 ∧ ShortS (chgG l (lastT ts) k).1.sets := by
  have hl := h.last
  have hok := laterG_ok l k hl
  obtain ⟨a1, a2, a3⟩ := laterG_num l k (lastT ts)
  obtain ⟨b1, b2, b3, b4, b5⟩ := leads_small (hl.check (by omega)) (hok.check (by omega)) a2.symm a3.symm a1
  have hc : (chgG l (lastT ts) k).1 = (betweenF (lastT ts) (laterG l (lastT ts) k).1).1 := rfl
  rw [hc]
  exact ⟨by rw [pubF_ok h.valid b2 (by have := h.len; omega), b3], b4, b5⟩
def pubI (l : List UInt8) : Nat → List PTab × Nat → List PTab × Nat
  | 0, s => s
  | n + 1, s => pubI l n (s.1 ++ [(laterG l (lastT s.1) s.2).1], (laterG l (lastT s.1) s.2).2)
theorem pubI_ok (l : List UInt8) : ∀ {n m : Nat} {s : List PTab × Nat}, PubOK s.1 m → m + n ≤ 10 → PubOK (pubI l n s).1 (m + n)
  | 0, m, s, h, _ => h
  | n + 1, m, s, h, hm => by
    rw [pubI, show m + (n + 1) = m + 1 + n by omega]
    exact pubI_ok l (h.next (by omega) l s.2) (by omega)
def pubG (l : List UInt8) (k : Nat) : List PTab × Nat :=
  let t := tabG l (fldV l k) (pickK l k)
  pubI l (pickV l t.2 4).toNat ([t.1], pickK l t.2)
theorem pub_one {t : PTab} (h : TabOK t 0) : PubOK [t] 0 := ⟨validP.one (h.check (by omega)), by simp, fun u hu => by simp at hu; subst hu; exact h⟩
theorem pubG_ok (l : List UInt8) (k : Nat) : PubOK (pubG l k).1 3 := by
  obtain ⟨f1, f2, f3⟩ := fldV_ok l k
  have ht := tabG_ok l (fldV l k) (pickK l k) f1 f2 f3
  have a := pickV_in l (tabG l (fldV l k) (pickK l k)).2 4 (by omega)
  have := pubI_ok l (n := (pickV l (tabG l (fldV l k) (pickK l k)).2 4).toNat) (s := ([(tabG l (fldV l k) (pickK l k)).1], pickK l (tabG l (fldV l k) (pickK l k)).2)) (pub_one ht) (by omega)
  exact ⟨this.valid, by have := this.len; simp only [pubG]; omega, fun t ht => (this.tabs t ht).mono (by omega)⟩
theorem dpublisher (l : List UInt8) (hl : l.length ≤ 140737488355328) (k : Nat) : Does Try.prog 35 [dcp] (dc l k) (vPub (pubG l k).1) (dc l (pubG l k).2) [] := by
  refine go_play_Dice_Publisher rfl BxOK.one fun cx hm0 => go_in 5000 ?_
  unfold ac_play_Dice_Publisher rs_play_Dice_Publisher
  obtain ⟨f1, f2, f3⟩ := fldV_ok l k
  have d1 := dfield l hl k
  simp only [pubG]
  generalize fldV l k = p at *
  generalize pickK l k = k1 at *
  have d2 := dtable l hl k1 p (by omega)
  have okt := tabG_ok l p k1 f1 f2 f3
  generalize (tabG l p k1).2 = k2 at *
  generalize (tabG l p k1).1 = t at *
  have e1 := r37new t (okT_check (okt.check (by omega)))
  rw [newP, if_neg (by simp [okt.check (by omega)])] at e1
  have d3 := pick l hl k2 4 (by omega)
  have a3 := pickV_in l k2 4 (by omega)
  obtain ⟨n, hn⟩ : ∃ n : Nat, pickV l k2 4 = (n : Int) := ⟨(pickV l k2 4).toNat, by omega⟩
  rw [hn] at d3 a3 ⊢
  rw [Int.toNat_natCast]
  generalize pickK l k2 = k3 at *
  have hR : PubOK (pubI l n ([t], k3)).1 3 := by
    have := pubI_ok l (n := n) (s := ([t], k3)) (pub_one okt) (by omega)
    exact ⟨this.valid, by have := this.len; omega, fun t ht => (this.tabs t ht).mono (by omega)⟩
  generalize hRes : pubI l n ([t], k3) = R at *
  simp only [List.map_cons, List.map_nil, eTab] at e1
  repeat' (first | simp (maxSteps := 9999999) only [↓GE, PL, PP, EE, QQ, seval] | (simp (disch := omega) only [IntWalk.i64_in]) | (refine go_brD (fun h => ?_) (fun h => ?_)) | (refine go_gsD (by ((try simp only [EE, QQ, seval]) <;> rfl)) (fun h => ?_) (fun h => ?_)) | (refine go_br (fun h => ?_) (fun h => ?_)) | (refine go_gs (by ((try simp only [EE, QQ, seval]) <;> rfl)) (fun h => ?_) (fun h => ?_)) | (apply go_call 5000 (d1) rfl rfl; (· ((try simp only [CC, LL, NM, EE, QQ, seval]) <;> (first | rfl | ((repeat constructor); done)))); (· exact CallForm.lent (by (try simp only [CC, LL, NM, EE, QQ, seval]); repeat' (first | trivial | (with_reducible rfl) | omega | (with_reducible apply And.intro) | rfl)) rfl rfl); (· ((try simp only [CC, LL, NM, EE, QQ, seval]) <;> (first | rfl | ((repeat constructor); done)))); (· ((try simp only [CC, LL, NM, EE, QQ, seval]) <;> (first | rfl | ((repeat constructor); done))))) | (apply go_call 5000 (d2) rfl rfl; (· ((try simp only [CC, LL, NM, EE, QQ, seval]) <;> (first | rfl | ((repeat constructor); done)))); (· exact CallForm.lent (by (try simp only [CC, LL, NM, EE, QQ, seval]); repeat' (first | trivial | (with_reducible rfl) | omega | (with_reducible apply And.intro) | rfl)) rfl rfl); (· ((try simp only [CC, LL, NM, EE, QQ, seval]) <;> (first | rfl | ((repeat constructor); done)))); (· ((try simp only [CC, LL, NM, EE, QQ, seval]) <;> (first | rfl | ((repeat constructor); done))))) | (apply go_call 5000 (e1) rfl rfl; (· ((try simp only [CC, LL, NM, EE, QQ, seval]) <;> (first | rfl | ((repeat constructor); done)))); (· exact CallForm.plain rfl); (· ((try simp only [CC, LL, NM, EE, QQ, seval]) <;> (first | rfl | ((repeat constructor); done)))); (· ((try simp only [CC, LL, NM, EE, QQ, seval]) <;> (first | rfl | ((repeat constructor); done))))) | (apply go_call 5000 (d3) rfl rfl; (· ((try simp only [CC, LL, NM, EE, QQ, seval]) <;> (first | rfl | ((repeat constructor); done)))); (· exact CallForm.lent (by (try simp only [CC, LL, NM, EE, QQ, seval]); repeat' (first | trivial | (with_reducible rfl) | omega | (with_reducible apply And.intro) | rfl)) rfl rfl); (· ((try simp only [CC, LL, NM, EE, QQ, seval]) <;> (first | rfl | ((repeat constructor); done)))); (· ((try simp only [CC, LL, NM, EE, QQ, seval]) <;> (first | rfl | ((repeat constructor); done))))) | (with_reducible apply And.intro) | (with_reducible exact trivial) | omega | (simp only [List.length_map, List.length_cons, List.length_nil] at *; omega) | (show _ = true; first | rfl | kernel_rfl))
  refine go_loop 5000 hm0 (ι := {q : Nat × List PTab × Nat // q.1 ≤ 3 ∧ PubOK q.2.1 (3 - q.1) ∧ pubI l q.1 q.2 = R}) (fun i => [(0, .bp 900000 0 0), (2, .bp 2 0 0), (3, .bp 3 0 0), (5, I i.1.1)]) (fun i => [(2, .box 0 [.nl 4]), (3, .box 0 [.d (dTabs i.1.2.1)]), (900000, .box 0 [.d (dBytes l), I i.1.2.2])]) (fun i => i.1.1) [] ⟨(n, [t], k3), by omega, ⟨(pub_one okt).valid, by simp, fun u hu => ((pub_one okt).tabs u hu).mono (by omega)⟩, hRes⟩ ?_ ?_
  · (simp only [GeS]; refine ⟨?_, ?_, ?_, ?_⟩; all_goals (repeat' (first | trivial | (with_reducible rfl) | simp only [CC, LL, EE, QQ, seval] | (with_reducible apply And.intro) | rfl | (refine ⟨_, rfl, ?_⟩) | (simp [eTab]; done) | omega)))
  · rintro ⟨⟨j, ts, k⟩, hj, hok, hI⟩
    simp only at hj hok hI ⊢
    by_cases hj0 : 0 < j
    · have q0 : decide ((j : Int) > 0) = true := decide_eq_true (by omega)
      have w0 : IntKind.i64.wrap ((j : Int) - 1) = ((j - 1 : Nat) : Int) := by rw [show (j : Int) - 1 = ((j - 1 : Nat) : Int) by omega]; exact IntWalk.i64_in _ (by omega)
      have e2 := r37newest ts hok.valid.okTs
      rw [newestF, if_neg (by simp [validB_yes hok.valid])] at e2
      have e3 := dchange l hl k (lastT ts) hok.last (by omega)
      obtain ⟨s1, s2, s3⟩ := pub_step l hok (by omega) k
      have e4 := r37publish ts (chgG l (lastT ts) k).1 hok.valid.okTs (by omega) s3
      rw [s1] at e4
      have hnx := hok.next (by omega) l k
      have hI2 : pubI l (j - 1) (ts ++ [(laterG l (lastT ts) k).1], (laterG l (lastT ts) k).2) = R := by
        obtain ⟨j, rfl⟩ : ∃ m, j = m + 1 := ⟨j - 1, by omega⟩
        exact hI
      have hk2 : (chgG l (lastT ts) k).2 = (laterG l (lastT ts) k).2 := rfl
      rw [hk2] at e3
      generalize (chgG l (lastT ts) k).1 = C at *
      generalize (laterG l (lastT ts) k).2 = k' at *
      generalize (laterG l (lastT ts) k).1 = u at *
      generalize lastT ts = lt at *
      repeat' (first | simp (maxSteps := 9999999) only [↓GE, PL, PP, EE, QQ, seval, q0, w0] | (simp (disch := omega) only [IntWalk.i64_in]) | (refine go_brD (fun h => ?_) (fun h => ?_)) | (refine go_gsD (by ((try simp only [EE, QQ, seval]) <;> rfl)) (fun h => ?_) (fun h => ?_)) | (refine go_br (fun h => ?_) (fun h => ?_)) | (refine go_gs (by ((try simp only [EE, QQ, seval]) <;> rfl)) (fun h => ?_) (fun h => ?_)) | (apply go_call 5000 (e2) rfl rfl; (· ((try simp only [CC, LL, NM, EE, QQ, seval]) <;> (first | rfl | ((repeat constructor); done)))); (· exact CallForm.plain rfl); (· ((try simp only [CC, LL, NM, EE, QQ, seval]) <;> (first | rfl | ((repeat constructor); done)))); (· ((try simp only [CC, LL, NM, EE, QQ, seval]) <;> (first | rfl | ((repeat constructor); done))))) | (apply go_call 5000 (e3) rfl rfl; (· ((try simp only [CC, LL, NM, EE, QQ, seval]) <;> (first | rfl | ((repeat constructor); done)))); (· exact CallForm.lent (by (try simp only [CC, LL, NM, EE, QQ, seval]); repeat' (first | trivial | (with_reducible rfl) | omega | (with_reducible apply And.intro) | rfl)) rfl rfl); (· ((try simp only [CC, LL, NM, EE, QQ, seval]) <;> (first | rfl | ((repeat constructor); done)))); (· ((try simp only [CC, LL, NM, EE, QQ, seval]) <;> (first | rfl | ((repeat constructor); done))))) | (apply go_call 5000 (e4) rfl rfl; (· ((try simp only [CC, LL, NM, EE, QQ, seval]) <;> (first | rfl | ((repeat constructor); done)))); (· exact CallForm.plain rfl); (· ((try simp only [CC, LL, NM, EE, QQ, seval]) <;> (first | rfl | ((repeat constructor); done)))); (· ((try simp only [CC, LL, NM, EE, QQ, seval]) <;> (first | rfl | ((repeat constructor); done))))) | (with_reducible apply And.intro) | (with_reducible exact trivial) | omega | (simp only [List.length_map, List.length_cons, List.length_nil] at *; omega) | (show _ = true; first | rfl | kernel_rfl))
      refine ⟨⟨(j - 1, ts ++ [u], k'), by simp only; omega, ⟨hnx.valid, by have := hnx.len; simp only; omega, fun t ht => (hnx.tabs t ht).mono (by omega)⟩, hI2⟩, ?_, by simp only; omega⟩
      (simp only [GeS]; refine ⟨?_, ?_, ?_, ?_⟩; all_goals (repeat' (first | trivial | (with_reducible rfl) | simp only [CC, LL, EE, QQ, seval] | (with_reducible apply And.intro) | rfl | (refine ⟨_, rfl, ?_⟩) | (simp; done) | omega)))
    · obtain rfl : j = 0 := by omega
      rw [pubI] at hI
      rw [← hI]
      repeat' (first | simp (maxSteps := 9999999) only [↓GE, PL, PP, EE, QQ, seval] | (simp (disch := omega) only [IntWalk.i64_in]) | (refine go_brD (fun h => ?_) (fun h => ?_)) | (refine go_gsD (by ((try simp only [EE, QQ, seval]) <;> rfl)) (fun h => ?_) (fun h => ?_)) | (refine go_br (fun h => ?_) (fun h => ?_)) | (refine go_gs (by ((try simp only [EE, QQ, seval]) <;> rfl)) (fun h => ?_) (fun h => ?_)) | (with_reducible apply And.intro) | (with_reducible exact trivial) | omega | (simp only [List.length_map, List.length_cons, List.length_nil] at *; omega) | (show _ = true; first | rfl | kernel_rfl))
      all_goals ((first | apply ret_mk [] | apply end_mk []); (· ((try simp only [CC, LL, EE, QQ, seval]) <;> rfl)); (· ((try simp only [CC, LL, EE, QQ, seval]) <;> repeat' (first | (with_reducible apply And.intro) | rfl | trivial | (exact ⟨_, rfl⟩) | (exact ⟨_, _, _, rfl⟩) | (simp [*, ]; done) | (simp [*, ]; omega) | (simp_all []; done) | (simp_all []; omega)))); all_goals (first | trivial | decide | ((try simp only [CC, LL, EE, QQ, seval]) <;> repeat' (first | (with_reducible apply And.intro) | (exact ⟨_, rfl, rfl, rfl⟩) | (exact ⟨_, _, _, rfl⟩) | (exact ⟨_, rfl⟩) | trivial | rfl | (simp; done)))))
theorem validP.mono {ts : List PTab} (h : validP ts) : ∀ {d i : Nat}, i + d + 1 < ts.length → (ts.getD i noTab).num < (ts.getD (i + d + 1) noTab).num
  | 0, i, hi => (h.2.2 (i + 1) hi).2.2.2 (by omega)
  | d + 1, i, hi => by
    have h1 := h.mono (d := d) (i := i) (by omega)
    have h2 := (h.2.2 (i + (d + 1) + 1) hi).2.2.2 (by omega)
    rw [show i + (d + 1) + 1 - 1 = i + d + 1 by omega] at h2
    omega
theorem validP.lt {ts : List PTab} (h : validP ts) {i j : Nat} (hij : i < j) (hj : j < ts.length) : (ts.getD i noTab).num < (ts.getD j noTab).num := by
  have := h.mono (d := j - i - 1) (i := i) (by omega)
  rwa [show i + (j - i - 1) + 1 = j by omega] at this
theorem validP.find {ts : List PTab} (h : validP ts) {k : Nat} (hk : k < ts.length) : findP ts (ts.getD k noTab).num = (ts.getD k noTab, 0) := by
  rw [findP, if_neg (by simp [validB_yes h]), findT_hit hk (fun j hj => by have := h.lt hj hk; omega) rfl]
theorem validP.btw {ts : List PTab} (h : validP ts) {i j : Nat} (hij : i < j) (hj : j < ts.length) : (btwP ts (ts.getD i noTab).num (ts.getD j noTab).num).2 = 0 ∧ checkC (ts.getD i noTab) (btwP ts (ts.getD i noTab).num (ts.getD j noTab).num).1 = 0 ∧ applyF (ts.getD i noTab) (btwP ts (ts.getD i noTab).num (ts.getD j noTab).num).1 = (ts.getD j noTab, 0) ∧ (btwP ts (ts.getD i noTab).num (ts.getD j noTab).num).1.sets.length ≤ 1024 ∧ ShortS (btwP ts (ts.getD i noTab).num (ts.getD j noTab).num).1.sets := by
  have a1 := h.2.2 i (by omega)
  have a2 := h.2.2 j hj
  rw [btwP, h.find hj, h.find (show i < ts.length by omega), if_neg (by simp), if_neg (by simp)]
  exact leads_small a1.1 a2.1 (a1.2.1.trans a2.2.1.symm) (a1.2.2.1.trans a2.2.2.1.symm) (h.lt hij hj)
theorem lawJoins (s : List UInt8) (hs : s.length ≤ 140737488355328) : Does Try.prog 7 [.d (dBytes s)] [] (B true) [] [] := by
  refine go_law37_UpdateJoins rfl BxOK.nil fun cx hm0 => go_in 5000 ?_
  unfold ac_law37_UpdateJoins rs_law37_UpdateJoins
  generalize hL : s.take 300 = l
  have hl : l.length ≤ 140737488355328 := by rw [← hL, List.length_take]; omega
  have e0 := dice s hs
  rw [hL] at e0
  have d1 := (dpublisher l hl 0).nm1 19000 0 (by omega) rfl rfl rfl rfl rfl
  have hok := pubG_ok l 0
  generalize (pubG l 0).2 = k1 at *
  generalize (pubG l 0).1 = ts at *
  have hV := hok.valid
  have h1 := hV.1
  have hlen := hok.len
  have hT := hV.okTs
  have hs0 := getD_map eTab [] noTab ts 0 (by omega)
  have h00 : 0 < ts.length := by omega
  repeat' (first | simp (maxSteps := 9999999) only [↓GE, PL, PP, EE, QQ, seval, hs0, h00, eTab, List.length_map] | (simp (disch := omega) only [IntWalk.i64_in]) | (refine go_brD (fun h => ?_) (fun h => ?_)) | (refine go_gsD (by ((try simp only [EE, QQ, seval]) <;> rfl)) (fun h => ?_) (fun h => ?_)) | (refine go_br (fun h => ?_) (fun h => ?_)) | (refine go_gs (by ((try simp only [EE, QQ, seval]) <;> rfl)) (fun h => ?_) (fun h => ?_)) | (apply go_call 5000 (sane37) rfl rfl; (· ((try simp only [CC, LL, NM, EE, QQ, seval]) <;> (first | rfl | ((repeat constructor); done)))); (· exact CallForm.plain rfl); (· ((try simp only [CC, LL, NM, EE, QQ, seval]) <;> (first | rfl | ((repeat constructor); done)))); (· ((try simp only [CC, LL, NM, EE, QQ, seval]) <;> (first | rfl | ((repeat constructor); done))))) | (apply go_call 5000 (e0) rfl rfl; (· ((try simp only [CC, LL, NM, EE, QQ, seval]) <;> (first | rfl | ((repeat constructor); done)))); (· exact CallForm.news rfl rfl); (· ((try simp only [CC, LL, NM, EE, QQ, seval]) <;> (first | rfl | ((repeat constructor); done)))); (· ((try simp only [CC, LL, NM, EE, QQ, seval]) <;> (first | rfl | ((repeat constructor); done))))) | (apply go_call 5000 (d1) rfl rfl; (· ((try simp only [CC, LL, NM, EE, QQ, seval]) <;> (first | rfl | ((repeat constructor); done)))); (· exact CallForm.lent (by (try simp only [CC, LL, NM, EE, QQ, seval]); repeat' (first | trivial | (with_reducible rfl) | omega | (with_reducible apply And.intro) | rfl)) rfl rfl); (· ((try simp only [CC, LL, NM, EE, QQ, seval]) <;> (first | rfl | ((repeat constructor); done)))); (· ((try simp only [CC, LL, NM, EE, QQ, seval]) <;> (first | rfl | ((repeat constructor); done))))) | (with_reducible apply And.intro) | (with_reducible exact trivial) | omega | (simp only [List.length_map, List.length_cons, List.length_nil] at *; omega) | (show _ = true; first | rfl | kernel_rfl))
  refine go_loopz 5000 hm0 (ι := {q : Nat × PTab // q.1 < ts.length ∧ q.2 = ts.getD q.1 noTab}) (fun i => [(4, .bp 4 0 0), (5, I ts.length), (6, .bp 6 0 0), (7, I i.1.1)]) (fun i => [(4, .box 0 [.d (dTabs ts)]), (6, .box 0 [I i.1.2.num, I i.1.2.p, I i.1.2.width, .d (dRows i.1.2.rows)])]) (fun i => ts.length - i.1.1) [] [] ⟨(0, ts.getD 0 noTab), h00, rfl⟩ ?_ ?_
  · simp only [GeZ]; (simp only [GeS]; refine ⟨?_, ?_, ?_, ?_⟩; all_goals (repeat' (first | trivial | (with_reducible rfl) | simp only [CC, LL, EE, QQ, seval] | (with_reducible apply And.intro) | rfl | (refine ⟨_, rfl, ?_⟩) | (simp; done) | omega)))
  · rintro ⟨⟨i, t0⟩, hi, ht0⟩
    simp only at hi ht0 ⊢
    subst ht0
    have w1 : IntKind.i64.wrap ((i : Int) + 1) = ((i + 1 : Nat) : Int) := by rw [show (i : Int) + 1 = ((i + 1 : Nat) : Int) by omega]; exact IntWalk.i64_in _ (by omega)
    have hs1 := getD_map eTab [] noTab ts i hi
    by_cases hi2 : i + 1 < ts.length
    · have q : decide (((i + 1 : Nat) : Int) < (ts.length : Int)) = true := decide_eq_true (by omega)
      have hs2 := getD_map eTab [] noTab ts (i + 1) hi2
      obtain ⟨b1, b2, b3, b4, b5⟩ := hV.btw (show i < i + 1 by omega) hi2
      have e1 := ubetween ts (ts.getD i noTab).num (ts.getD (i + 1) noTab).num hT
      rw [b1] at e1
      have o1 := hT.get hi
      have e2 := r15apply (ts.getD i noTab) (btwP ts (ts.getD i noTab).num (ts.getD (i + 1) noTab).num).1 (by have := o1.1; omega) o1.2 (by omega) b5
      rw [b3] at e2
      generalize (btwP ts (ts.getD i noTab).num (ts.getD (i + 1) noTab).num).1 = C at *
      generalize hu : ts.getD (i + 1) noTab = u at *
      generalize ts.getD i noTab = t at *
      repeat' (first | simp (maxSteps := 9999999) only [↓GE, PL, PP, EE, QQ, seval, w1, q, hs1, hs2, hi, hi2, eTab, List.length_map] | (simp (disch := omega) only [IntWalk.i64_in]) | (refine go_brD (fun h => ?_) (fun h => ?_)) | (refine go_gsD (by ((try simp only [EE, QQ, seval]) <;> rfl)) (fun h => ?_) (fun h => ?_)) | (refine go_br (fun h => ?_) (fun h => ?_)) | (refine go_gs (by ((try simp only [EE, QQ, seval]) <;> rfl)) (fun h => ?_) (fun h => ?_)) | (apply go_call 5000 (e1) rfl rfl; (· ((try simp only [CC, LL, NM, EE, QQ, seval]) <;> (first | rfl | ((repeat constructor); done)))); (· exact CallForm.plain rfl); (· ((try simp only [CC, LL, NM, EE, QQ, seval]) <;> (first | rfl | ((repeat constructor); done)))); (· ((try simp only [CC, LL, NM, EE, QQ, seval]) <;> (first | rfl | ((repeat constructor); done))))) | (apply go_call 5000 (e2) rfl rfl; (· ((try simp only [CC, LL, NM, EE, QQ, seval]) <;> (first | rfl | ((repeat constructor); done)))); (· exact CallForm.news rfl rfl); (· ((try simp only [CC, LL, NM, EE, QQ, seval]) <;> (first | rfl | ((repeat constructor); done)))); (· ((try simp only [CC, LL, NM, EE, QQ, seval]) <;> (first | rfl | ((repeat constructor); done))))) | (with_reducible apply And.intro) | (with_reducible exact trivial) | omega | (simp only [List.length_map, List.length_cons, List.length_nil] at *; omega) | (show _ = true; first | rfl | kernel_rfl))
      refine ⟨[.og 56000 0], [], ⟨(i + 1, u), hi2, hu.symm⟩, ?_, by simp only; omega⟩
      simp only [GeZ]; (simp only [GeS]; refine ⟨?_, ?_, ?_, ?_⟩; all_goals (repeat' (first | trivial | (with_reducible rfl) | simp only [CC, LL, EE, QQ, seval] | (with_reducible apply And.intro) | rfl | (refine ⟨_, rfl, ?_⟩) | (simp; done) | omega)))
    · have q : decide (((i + 1 : Nat) : Int) < (ts.length : Int)) = false := decide_eq_false (by omega)
      have e3 := unewest ts hT
      rw [newestF, if_neg (by simp [validB_yes hV])] at e3
      have hlast : lastT ts = ts.getD i noTab := by rw [lastT, show ts.length - 1 = i by omega]
      rw [hlast] at e3
      have o1 := hT.get hi
      have e4 := r14same (ts.getD i noTab) (ts.getD i noTab) (by have := o1.1; omega) (by have := o1.1; omega) o1.2 o1.2
      rw [sameT_iff, decide_eq_true rfl] at e4
      generalize ts.getD i noTab = t at *
      repeat' (first | simp (maxSteps := 9999999) only [↓GE, PL, PP, EE, QQ, seval, w1, q] | (simp (disch := omega) only [IntWalk.i64_in]) | (refine go_brD (fun h => ?_) (fun h => ?_)) | (refine go_gsD (by ((try simp only [EE, QQ, seval]) <;> rfl)) (fun h => ?_) (fun h => ?_)) | (refine go_br (fun h => ?_) (fun h => ?_)) | (refine go_gs (by ((try simp only [EE, QQ, seval]) <;> rfl)) (fun h => ?_) (fun h => ?_)) | (apply go_call 5000 (e3) rfl rfl; (· ((try simp only [CC, LL, NM, EE, QQ, seval]) <;> (first | rfl | ((repeat constructor); done)))); (· exact CallForm.plain rfl); (· ((try simp only [CC, LL, NM, EE, QQ, seval]) <;> (first | rfl | ((repeat constructor); done)))); (· ((try simp only [CC, LL, NM, EE, QQ, seval]) <;> (first | rfl | ((repeat constructor); done))))) | (apply go_call 5000 (e4) rfl rfl; (· ((try simp only [CC, LL, NM, EE, QQ, seval]) <;> (first | rfl | ((repeat constructor); done)))); (· exact CallForm.plain rfl); (· ((try simp only [CC, LL, NM, EE, QQ, seval]) <;> (first | rfl | ((repeat constructor); done)))); (· ((try simp only [CC, LL, NM, EE, QQ, seval]) <;> (first | rfl | ((repeat constructor); done))))) | (with_reducible apply And.intro) | (with_reducible exact trivial) | omega | (simp only [List.length_map, List.length_cons, List.length_nil] at *; omega) | (show _ = true; first | rfl | kernel_rfl))
      all_goals ((first | apply ret_mk [] | apply end_mk []); (· ((try simp only [CC, LL, EE, QQ, seval]) <;> rfl)); (· ((try simp only [CC, LL, EE, QQ, seval]) <;> repeat' (first | (with_reducible apply And.intro) | rfl | trivial | (exact ⟨_, rfl⟩) | (exact ⟨_, _, _, rfl⟩) | (simp [*, ]; done) | (simp [*, ]; omega) | (simp_all []; done) | (simp_all []; omega)))); all_goals (first | trivial | decide | ((try simp only [CC, LL, EE, QQ, seval]) <;> repeat' (first | (with_reducible apply And.intro) | (exact ⟨_, rfl, rfl, rfl⟩) | (exact ⟨_, _, _, rfl⟩) | (exact ⟨_, rfl⟩) | trivial | rfl | (simp; done)))))
end Go.Proofs.Ytilkjcobkdjlkaa.Sim
