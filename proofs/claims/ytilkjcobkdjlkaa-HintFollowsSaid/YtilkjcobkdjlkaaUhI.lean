/- HintAdds, HintRecovers, walked. -/
import Derived.Test.YtilkjcobkdjlkaaUhH
namespace Go.Proofs.Ytilkjcobkdjlkaa.Sim
open Go
set_option maxRecDepth 100000
set_option maxHeartbeats 8000000
set_option linter.unusedVariables false
set_option linter.unusedSimpArgs false
attribute [local irreducible] Go Mean
def tEx : PTab := ⟨1, 7, 1, [[3], [5], [6]]⟩
theorem field7 : fieldB 7 = true := fieldB_four 0 (by decide)
theorem tEx_ok : checkT tEx = 0 := by
  rw [checkT, if_neg (by decide), if_neg (by simp [tEx, field7]), if_neg (by decide), if_neg (by decide)]
  decide
theorem sane38 : Does Try.prog 12 [] [] (B true) [] [] := by
  refine go_law38_sane rfl BxOK.nil fun cx hm0 => go_in 5000 ?_
  unfold ac_law38_sane rs_law38_sane
  have e1 := hmake tEx [1, 1, 0] (tabF tEx_ok) (by decide)
  have hm : makeH tEx [1, 1, 0] = (⟨1, [1, 1, 0], [1]⟩, 0) := by
    have hc : combL tEx.p tEx.width.toNat [1, 1, 0] tEx.rows = [1] := by decide +kernel
    rw [makeH, if_neg (by decide), if_pos (by decide), hc]; rfl
  rw [hm] at e1
  have e2 := hwithout 7 ⟨1, [1, 1, 0], [1]⟩ 0 (by decide) (by decide)
  have hb : ∀ l : List Int, l.all (inE 7) = true → inB 7 ⟨1, [1, 1, 0], [1]⟩ l = true := fun l hl => by simp only [inB, field7, hl]; decide
  have hlk : ∀ l : List Int, l.all (inE 7) = true → lookH 7 ⟨1, [1, 1, 0], [1]⟩ 0 l = 0 := fun l hl => by rw [lookH, hb l hl, if_neg (by decide), if_neg (by decide)]
  rw [withF, hlk [] (by decide), if_neg (by decide)] at e2
  have e3 := hrecover 7 ⟨1, [1, 1, 0], [1]⟩ 0 [5] (by decide) (by decide) (by decide)
  rw [recF, hlk [5] (by decide), if_neg (by decide), if_neg (by decide), if_neg (by decide)] at e3
  have hr : recL 7 [1] [5] (invI 7 (([1, 1, 0] : List Int).getD (0 : Int).toNat 0)) = [3] := by decide +kernel
  simp only at e3
  rw [hr] at e3
  simp only [tEx] at e1
  repeat' (first | simp (maxSteps := 9999999) only [↓GE, PL, PP, EE, QQ, seval, List.set_cons_zero, List.set_cons_succ, List.replicate, eI, eR] | (simp (disch := omega) only [IntWalk.i64_in]) | (refine go_brD (fun h => ?_) (fun h => ?_)) | (refine go_gsD (by ((try simp only [EE, QQ, seval]) <;> rfl)) (fun h => ?_) (fun h => ?_)) | (refine go_br (fun h => ?_) (fun h => ?_)) | (refine go_gs (by ((try simp only [EE, QQ, seval]) <;> rfl)) (fun h => ?_) (fun h => ?_)) | (apply go_call 5000 (e1) rfl rfl; (· ((try simp only [CC, LL, NM, EE, QQ, seval]) <;> (first | rfl | ((repeat constructor); done)))); (· exact CallForm.plain rfl); (· ((try simp only [CC, LL, NM, EE, QQ, seval]) <;> (first | rfl | ((repeat constructor); done)))); (· ((try simp only [CC, LL, NM, EE, QQ, seval]) <;> (first | rfl | ((repeat constructor); done))))) | (apply go_call 5000 (e2) rfl rfl; (· ((try simp only [CC, LL, NM, EE, QQ, seval]) <;> (first | rfl | ((repeat constructor); done)))); (· exact CallForm.plain rfl); (· ((try simp only [CC, LL, NM, EE, QQ, seval]) <;> (first | rfl | ((repeat constructor); done)))); (· ((try simp only [CC, LL, NM, EE, QQ, seval]) <;> (first | rfl | ((repeat constructor); done))))) | (apply go_call 5000 (e3) rfl rfl; (· ((try simp only [CC, LL, NM, EE, QQ, seval]) <;> (first | rfl | ((repeat constructor); done)))); (· exact CallForm.plain rfl); (· ((try simp only [CC, LL, NM, EE, QQ, seval]) <;> (first | rfl | ((repeat constructor); done)))); (· ((try simp only [CC, LL, NM, EE, QQ, seval]) <;> (first | rfl | ((repeat constructor); done))))) | (with_reducible apply And.intro) | (with_reducible exact trivial) | omega | (simp only [List.length_map, List.length_cons, List.length_nil] at *; omega) | (show _ = true; first | rfl | kernel_rfl))
  all_goals ((first | apply ret_mk [] | apply end_mk []); (· ((try simp only [CC, LL, EE, QQ, seval]) <;> rfl)); (· ((try simp only [CC, LL, EE, QQ, seval]) <;> repeat' (first | (with_reducible apply And.intro) | rfl | trivial | (exact ⟨_, rfl⟩) | (exact ⟨_, _, _, rfl⟩) | (simp [*, ]; done) | (simp [*, ]; omega) | (simp_all []; done) | (simp_all []; omega)))); all_goals (first | trivial | decide | ((try simp only [CC, LL, EE, QQ, seval]) <;> repeat' (first | (with_reducible apply And.intro) | (exact ⟨_, rfl, rfl, rfl⟩) | (exact ⟨_, _, _, rfl⟩) | (exact ⟨_, rfl⟩) | trivial | rfl | (simp; done)))))
theorem lawAdds (s : List UInt8) (hs : s.length ≤ 140737488355328) : Does Try.prog 4 [.d (dBytes s)] [] (B true) [] [] := by
  refine go_law38_HintAdds rfl BxOK.nil fun cx hm0 => go_in 5000 ?_
  unfold ac_law38_HintAdds rs_law38_HintAdds
  generalize hL : s.take 300 = l
  have hl : l.length ≤ 140737488355328 := by rw [← hL, List.length_take]; omega
  have e0 := dice s hs
  rw [hL] at e0
  obtain ⟨f1, f2, f3⟩ := fldV_ok l 0
  have d1 := (dfield l hl 0).nm1 22000 0 (by omega) rfl rfl rfl rfl rfl
  generalize fldV l 0 = p at *
  generalize pickK l 0 = k1 at *
  have d2 := (dtable l hl k1 p (by omega)).nm1 22000 0 (by omega) rfl rfl rfl rfl rfl
  have okt := tabG_ok l p k1 f1 f2 f3
  have hp : (tabG l p k1).1.p = p := rfl
  generalize (tabG l p k1).2 = k2 at *
  generalize (tabG l p k1).1 = t at *
  have ht := tabF (okt.check (by omega))
  have hlen := ht.len
  have d3 := (delements l hl k2 t.p (by omega) t.rows.length (by omega)).nm1 22000 0 (by omega) rfl rfl rfl rfl rfl
  have la := elmG_len (l := l) (p := t.p) (k := k2) (n := t.rows.length)
  have aa := elmG_all (l := l) (p := t.p) (k := k2) (n := t.rows.length) (by omega)
  generalize (elmG l t.p k2 t.rows.length).2 = k3 at *
  generalize (elmG l t.p k2 t.rows.length).1 = a at *
  have d4 := (delements l hl k3 t.p (by omega) t.rows.length (by omega)).nm1 22000 0 (by omega) rfl rfl rfl rfl rfl
  have lb := elmG_len (l := l) (p := t.p) (k := k3) (n := t.rows.length)
  have ab := elmG_all (l := l) (p := t.p) (k := k3) (n := t.rows.length) (by omega)
  generalize (elmG l t.p k3 t.rows.length).2 = k4 at *
  generalize (elmG l t.p k3 t.rows.length).1 = b at *
  have e1 := r4add t.p a b ht.fld aa ab (by omega) (by omega)
  have lc : (addL t.p a b).length = t.rows.length := by rw [addL, addN_len, la]
  have ac : (addL t.p a b).all (inE t.p) = true := by
    rw [allIn]
    intro x hx
    simp only [addL, addN, List.mem_map] at hx
    obtain ⟨i, -, rfl⟩ := hx
    exact ⟨Int.emod_nonneg _ (by omega), Int.emod_lt_of_pos _ (by omega)⟩
  have hsum := combL_add (p := t.p) (w := t.width.toNat) (a := a) (b := b) (rows := t.rows) (by omega) (by omega)
  generalize addL t.p a b = c at *
  have m1 := hmake t a ht (by omega)
  have m2 := hmake t b ht (by omega)
  have m3 := hmake t c ht (by omega)
  rw [makeH, if_neg (by omega), if_pos aa] at m1
  rw [makeH, if_neg (by omega), if_pos ab] at m2
  rw [makeH, if_neg (by omega), if_pos ac] at m3
  have hw2 := ht.w2
  have l1 := combL_len (p := t.p) (w := t.width.toNat) (c := a) (rows := t.rows)
  have l2 := combL_len (p := t.p) (w := t.width.toNat) (c := b) (rows := t.rows)
  have l3 := combL_len (p := t.p) (w := t.width.toNat) (c := c) (rows := t.rows)
  have c1 : (combL t.p t.width.toNat a t.rows).all (inE t.p) = true := combN_all (by omega)
  have c2 : (combL t.p t.width.toNat b t.rows).all (inE t.p) = true := combN_all (by omega)
  have e2 := r4add t.p (combL t.p t.width.toNat a t.rows) (combL t.p t.width.toNat b t.rows) ht.fld c1 c2 (by omega) (by omega)
  rw [hsum] at e2
  generalize combL t.p t.width.toNat a t.rows = sa at *
  generalize combL t.p t.width.toNat b t.rows = sb at *
  generalize combL t.p t.width.toNat c t.rows = sc at *
  have e3 := ints31 sc sc (by omega) (by omega)
  rw [decide_eq_true rfl] at e3
  subst hp
  repeat' (first | simp (maxSteps := 9999999) only [↓GE, PL, PP, EE, QQ, seval, List.length_map] | (simp (disch := omega) only [IntWalk.i64_in]) | (refine go_brD (fun h => ?_) (fun h => ?_)) | (refine go_gsD (by ((try simp only [EE, QQ, seval]) <;> rfl)) (fun h => ?_) (fun h => ?_)) | (refine go_br (fun h => ?_) (fun h => ?_)) | (refine go_gs (by ((try simp only [EE, QQ, seval]) <;> rfl)) (fun h => ?_) (fun h => ?_)) | (apply go_call 5000 (sane38) rfl rfl; (· ((try simp only [CC, LL, NM, EE, QQ, seval]) <;> (first | rfl | ((repeat constructor); done)))); (· exact CallForm.plain rfl); (· ((try simp only [CC, LL, NM, EE, QQ, seval]) <;> (first | rfl | ((repeat constructor); done)))); (· ((try simp only [CC, LL, NM, EE, QQ, seval]) <;> (first | rfl | ((repeat constructor); done))))) | (apply go_call 5000 (e0) rfl rfl; (· ((try simp only [CC, LL, NM, EE, QQ, seval]) <;> (first | rfl | ((repeat constructor); done)))); (· exact CallForm.news rfl rfl); (· ((try simp only [CC, LL, NM, EE, QQ, seval]) <;> (first | rfl | ((repeat constructor); done)))); (· ((try simp only [CC, LL, NM, EE, QQ, seval]) <;> (first | rfl | ((repeat constructor); done))))) | (apply go_call 5000 (d1) rfl rfl; (· ((try simp only [CC, LL, NM, EE, QQ, seval]) <;> (first | rfl | ((repeat constructor); done)))); (· exact CallForm.lent (by (try simp only [CC, LL, NM, EE, QQ, seval]); repeat' (first | trivial | (with_reducible rfl) | omega | (with_reducible apply And.intro) | rfl)) rfl rfl); (· ((try simp only [CC, LL, NM, EE, QQ, seval]) <;> (first | rfl | ((repeat constructor); done)))); (· ((try simp only [CC, LL, NM, EE, QQ, seval]) <;> (first | rfl | ((repeat constructor); done))))) | (apply go_call 5000 (d2) rfl rfl; (· ((try simp only [CC, LL, NM, EE, QQ, seval]) <;> (first | rfl | ((repeat constructor); done)))); (· exact CallForm.lent (by (try simp only [CC, LL, NM, EE, QQ, seval]); repeat' (first | trivial | (with_reducible rfl) | omega | (with_reducible apply And.intro) | rfl)) rfl rfl); (· ((try simp only [CC, LL, NM, EE, QQ, seval]) <;> (first | rfl | ((repeat constructor); done)))); (· ((try simp only [CC, LL, NM, EE, QQ, seval]) <;> (first | rfl | ((repeat constructor); done))))) | (apply go_call 5000 (d3) rfl rfl; (· ((try simp only [CC, LL, NM, EE, QQ, seval]) <;> (first | rfl | ((repeat constructor); done)))); (· exact CallForm.lent (by (try simp only [CC, LL, NM, EE, QQ, seval]); repeat' (first | trivial | (with_reducible rfl) | omega | (with_reducible apply And.intro) | rfl)) rfl rfl); (· ((try simp only [CC, LL, NM, EE, QQ, seval]) <;> (first | rfl | ((repeat constructor); done)))); (· ((try simp only [CC, LL, NM, EE, QQ, seval]) <;> (first | rfl | ((repeat constructor); done))))) | (apply go_call 5000 (d4) rfl rfl; (· ((try simp only [CC, LL, NM, EE, QQ, seval]) <;> (first | rfl | ((repeat constructor); done)))); (· exact CallForm.lent (by (try simp only [CC, LL, NM, EE, QQ, seval]); repeat' (first | trivial | (with_reducible rfl) | omega | (with_reducible apply And.intro) | rfl)) rfl rfl); (· ((try simp only [CC, LL, NM, EE, QQ, seval]) <;> (first | rfl | ((repeat constructor); done)))); (· ((try simp only [CC, LL, NM, EE, QQ, seval]) <;> (first | rfl | ((repeat constructor); done))))) | (apply go_call 5000 (e1) rfl rfl; (· ((try simp only [CC, LL, NM, EE, QQ, seval]) <;> (first | rfl | ((repeat constructor); done)))); (· exact CallForm.plain rfl); (· ((try simp only [CC, LL, NM, EE, QQ, seval]) <;> (first | rfl | ((repeat constructor); done)))); (· ((try simp only [CC, LL, NM, EE, QQ, seval]) <;> (first | rfl | ((repeat constructor); done))))) | (apply go_call 5000 (m1) rfl rfl; (· ((try simp only [CC, LL, NM, EE, QQ, seval]) <;> (first | rfl | ((repeat constructor); done)))); (· exact CallForm.plain rfl); (· ((try simp only [CC, LL, NM, EE, QQ, seval]) <;> (first | rfl | ((repeat constructor); done)))); (· ((try simp only [CC, LL, NM, EE, QQ, seval]) <;> (first | rfl | ((repeat constructor); done))))) | (apply go_call 5000 (m2) rfl rfl; (· ((try simp only [CC, LL, NM, EE, QQ, seval]) <;> (first | rfl | ((repeat constructor); done)))); (· exact CallForm.plain rfl); (· ((try simp only [CC, LL, NM, EE, QQ, seval]) <;> (first | rfl | ((repeat constructor); done)))); (· ((try simp only [CC, LL, NM, EE, QQ, seval]) <;> (first | rfl | ((repeat constructor); done))))) | (apply go_call 5000 (m3) rfl rfl; (· ((try simp only [CC, LL, NM, EE, QQ, seval]) <;> (first | rfl | ((repeat constructor); done)))); (· exact CallForm.plain rfl); (· ((try simp only [CC, LL, NM, EE, QQ, seval]) <;> (first | rfl | ((repeat constructor); done)))); (· ((try simp only [CC, LL, NM, EE, QQ, seval]) <;> (first | rfl | ((repeat constructor); done))))) | (apply go_call 5000 (e2) rfl rfl; (· ((try simp only [CC, LL, NM, EE, QQ, seval]) <;> (first | rfl | ((repeat constructor); done)))); (· exact CallForm.plain rfl); (· ((try simp only [CC, LL, NM, EE, QQ, seval]) <;> (first | rfl | ((repeat constructor); done)))); (· ((try simp only [CC, LL, NM, EE, QQ, seval]) <;> (first | rfl | ((repeat constructor); done))))) | (apply go_call 5000 (e3) rfl rfl; (· ((try simp only [CC, LL, NM, EE, QQ, seval]) <;> (first | rfl | ((repeat constructor); done)))); (· exact CallForm.plain rfl); (· ((try simp only [CC, LL, NM, EE, QQ, seval]) <;> (first | rfl | ((repeat constructor); done)))); (· ((try simp only [CC, LL, NM, EE, QQ, seval]) <;> (first | rfl | ((repeat constructor); done))))) | (with_reducible apply And.intro) | (with_reducible exact trivial) | omega | (simp only [List.length_map, List.length_cons, List.length_nil] at *; omega) | (show _ = true; first | rfl | kernel_rfl))
  all_goals ((first | apply ret_mk [] | apply end_mk []); (· ((try simp only [CC, LL, EE, QQ, seval]) <;> rfl)); (· ((try simp only [CC, LL, EE, QQ, seval]) <;> repeat' (first | (with_reducible apply And.intro) | rfl | trivial | (exact ⟨_, rfl⟩) | (exact ⟨_, _, _, rfl⟩) | (simp [*, ]; done) | (simp [*, ]; omega) | (simp_all []; done) | (simp_all []; omega)))); all_goals (first | trivial | decide | ((try simp only [CC, LL, EE, QQ, seval]) <;> repeat' (first | (with_reducible apply And.intro) | (exact ⟨_, rfl, rfl, rfl⟩) | (exact ⟨_, _, _, rfl⟩) | (exact ⟨_, rfl⟩) | trivial | rfl | (simp; done)))))
theorem all_set {p : Int} (hp : 1 ≤ p) {c : List Int} (h : c.all (inE p) = true) {i : Nat} : (c.set i 0).all (inE p) = true := by
  rw [allIn] at h ⊢
  intro x hx
  rcases List.mem_or_eq_of_mem_set hx with hx | hx
  · exact h x hx
  · subst hx; omega
theorem lawRecovers (s : List UInt8) (hs : s.length ≤ 140737488355328) : Does Try.prog 3 [.d (dBytes s)] [] (B true) [] [] := by
  refine go_law38_HintRecovers rfl BxOK.nil fun cx hm0 => go_in 5000 ?_
  unfold ac_law38_HintRecovers rs_law38_HintRecovers
  generalize hL : s.take 300 = l
  have hl : l.length ≤ 140737488355328 := by rw [← hL, List.length_take]; omega
  have e0 := dice s hs
  rw [hL] at e0
  obtain ⟨f1, f2, f3⟩ := fldV_ok l 0
  have d1 := (dfield l hl 0).nm1 20000 0 (by omega) rfl rfl rfl rfl rfl
  generalize fldV l 0 = p at *
  generalize pickK l 0 = k1 at *
  have d2 := (dtable l hl k1 p (by omega)).nm1 20000 0 (by omega) rfl rfl rfl rfl rfl
  have okt := tabG_ok l p k1 f1 f2 f3
  have hp : (tabG l p k1).1.p = p := rfl
  generalize (tabG l p k1).2 = k2 at *
  generalize (tabG l p k1).1 = t at *
  have ht := tabF (okt.check (by omega))
  have hlen := ht.len
  have d3 := (delements l hl k2 t.p (by omega) t.rows.length (by omega)).nm1 20000 0 (by omega) rfl rfl rfl rfl rfl
  have la := elmG_len (l := l) (p := t.p) (k := k2) (n := t.rows.length)
  have aa := elmG_all (l := l) (p := t.p) (k := k2) (n := t.rows.length) (by omega)
  generalize (elmG l t.p k2 t.rows.length).2 = k3 at *
  generalize (elmG l t.p k2 t.rows.length).1 = c at *
  have m1 := hmake t c ht (by omega)
  rw [makeH, if_neg (by omega), if_pos aa] at m1
  have hw1 := ht.w1; have hw2 := ht.w2; have hp2 := ht.p2
  have l1 := combL_len (p := t.p) (w := t.width.toNat) (c := c) (rows := t.rows)
  have c1 : (combL t.p t.width.toNat c t.rows).all (inE t.p) = true := combN_all (by omega)
  have hrec := fun i (hi : i < t.rows.length) (h0 : c.getD i 0 ≠ 0) => recovers (w := t.width.toNat) (c := c) (i := i) ht.fld (by have := ht.rows; rwa [show ((t.width.toNat : Nat) : Int) = t.width by omega]) la aa hi h0
  have hcomb := fun i (hi : i < t.rows.length) => r4combine t.p t.width.toNat (c.set i 0) t.rows ht.fld (by omega) (by rw [List.length_set]; exact la) (by have := ht.rows; rwa [show ((t.width.toNat : Nat) : Int) = t.width by omega]) hlen
  rw [show ((t.width.toNat : Nat) : Int) = t.width by omega] at hcomb
  generalize combL t.p t.width.toNat c t.rows = sm at *
  subst hp
  repeat' (first | simp (maxSteps := 9999999) only [↓GE, PL, PP, EE, QQ, seval, List.length_map] | (simp (disch := omega) only [IntWalk.i64_in]) | (refine go_brD (fun h => ?_) (fun h => ?_)) | (refine go_gsD (by ((try simp only [EE, QQ, seval]) <;> rfl)) (fun h => ?_) (fun h => ?_)) | (refine go_br (fun h => ?_) (fun h => ?_)) | (refine go_gs (by ((try simp only [EE, QQ, seval]) <;> rfl)) (fun h => ?_) (fun h => ?_)) | (apply go_call 5000 (sane38) rfl rfl; (· ((try simp only [CC, LL, NM, EE, QQ, seval]) <;> (first | rfl | ((repeat constructor); done)))); (· exact CallForm.plain rfl); (· ((try simp only [CC, LL, NM, EE, QQ, seval]) <;> (first | rfl | ((repeat constructor); done)))); (· ((try simp only [CC, LL, NM, EE, QQ, seval]) <;> (first | rfl | ((repeat constructor); done))))) | (apply go_call 5000 (e0) rfl rfl; (· ((try simp only [CC, LL, NM, EE, QQ, seval]) <;> (first | rfl | ((repeat constructor); done)))); (· exact CallForm.news rfl rfl); (· ((try simp only [CC, LL, NM, EE, QQ, seval]) <;> (first | rfl | ((repeat constructor); done)))); (· ((try simp only [CC, LL, NM, EE, QQ, seval]) <;> (first | rfl | ((repeat constructor); done))))) | (apply go_call 5000 (d1) rfl rfl; (· ((try simp only [CC, LL, NM, EE, QQ, seval]) <;> (first | rfl | ((repeat constructor); done)))); (· exact CallForm.lent (by (try simp only [CC, LL, NM, EE, QQ, seval]); repeat' (first | trivial | (with_reducible rfl) | omega | (with_reducible apply And.intro) | rfl)) rfl rfl); (· ((try simp only [CC, LL, NM, EE, QQ, seval]) <;> (first | rfl | ((repeat constructor); done)))); (· ((try simp only [CC, LL, NM, EE, QQ, seval]) <;> (first | rfl | ((repeat constructor); done))))) | (apply go_call 5000 (d2) rfl rfl; (· ((try simp only [CC, LL, NM, EE, QQ, seval]) <;> (first | rfl | ((repeat constructor); done)))); (· exact CallForm.lent (by (try simp only [CC, LL, NM, EE, QQ, seval]); repeat' (first | trivial | (with_reducible rfl) | omega | (with_reducible apply And.intro) | rfl)) rfl rfl); (· ((try simp only [CC, LL, NM, EE, QQ, seval]) <;> (first | rfl | ((repeat constructor); done)))); (· ((try simp only [CC, LL, NM, EE, QQ, seval]) <;> (first | rfl | ((repeat constructor); done))))) | (apply go_call 5000 (d3) rfl rfl; (· ((try simp only [CC, LL, NM, EE, QQ, seval]) <;> (first | rfl | ((repeat constructor); done)))); (· exact CallForm.lent (by (try simp only [CC, LL, NM, EE, QQ, seval]); repeat' (first | trivial | (with_reducible rfl) | omega | (with_reducible apply And.intro) | rfl)) rfl rfl); (· ((try simp only [CC, LL, NM, EE, QQ, seval]) <;> (first | rfl | ((repeat constructor); done)))); (· ((try simp only [CC, LL, NM, EE, QQ, seval]) <;> (first | rfl | ((repeat constructor); done))))) | (apply go_call 5000 (m1) rfl rfl; (· ((try simp only [CC, LL, NM, EE, QQ, seval]) <;> (first | rfl | ((repeat constructor); done)))); (· exact CallForm.plain rfl); (· ((try simp only [CC, LL, NM, EE, QQ, seval]) <;> (first | rfl | ((repeat constructor); done)))); (· ((try simp only [CC, LL, NM, EE, QQ, seval]) <;> (first | rfl | ((repeat constructor); done))))) | (with_reducible apply And.intro) | (with_reducible exact trivial) | omega | (simp only [List.length_map, List.length_cons, List.length_nil] at *; omega) | (show _ = true; first | rfl | kernel_rfl))
  refine go_loop 5000 hm0 (ι := {i : Nat // i ≤ t.rows.length}) (fun i => [(4, .bp 4 0 0), (5, .og 31000 0), (6, .bp 6 0 0), (40, I t.rows.length), (41, I i.1)]) (fun i => [(4, .box 0 [I t.num, I t.p, I t.width, .d (dRows t.rows)]), (6, .box 0 [I t.num, .d (dInts c), .d (dInts sm)]), (31000, .arr 0 1 false (c.map eI))]) (fun i => t.rows.length - i.1) [] ⟨0, Nat.zero_le _⟩ ?_ ?_
  · (simp only [GeS]; refine ⟨?_, ?_, ?_, ?_⟩; all_goals (repeat' (first | trivial | (with_reducible rfl) | simp only [CC, LL, EE, QQ, seval] | (with_reducible apply And.intro) | rfl | (refine ⟨_, rfl, ?_⟩) | (simp; done) | omega)))
  · rintro ⟨i, hi⟩
    simp only
    by_cases hil : i < t.rows.length
    · have hic : i < c.length := by omega
      have hb0 : ∀ m : List Int, m.all (inE t.p) = true → lookH t.p ⟨t.num, c, sm⟩ i m = 0 := fun m hm => by
        rw [lookH, inB, ht.fld]; simp only [aa, c1, hm, Bool.and_self]
        rw [if_neg (by decide), if_neg (by omega)]
      have e1 := hwithout t.p ⟨t.num, c, sm⟩ i (by simp only; omega) (by simp only; omega)
      rw [withF, hb0 [] (by simp), if_neg (by decide)] at e1
      simp only [Int.toNat_natCast] at e1
      have e2 := hcomb i hil
      rw [if_pos (all_set (by omega) aa)] at e2
      have l2 := combL_len (p := t.p) (w := t.width.toNat) (c := c.set i 0) (rows := t.rows)
      have c2 : (combL t.p t.width.toNat (c.set i 0) t.rows).all (inE t.p) = true := combN_all (by omega)
      have hre := hrec i hil
      have e3 := hrecover t.p ⟨t.num, c, sm⟩ i (combL t.p t.width.toNat (c.set i 0) t.rows) (by simp only; omega) (by simp only; omega) (by omega)
      rw [recF, hb0 _ c2, if_neg (by decide), if_neg (by simp only; omega)] at e3
      simp only [Int.toNat_natCast] at e3
      have hz : ((c.set i 0).map eI).getD i [] = eI 0 := by
        rw [getD_map eI [] 0 _ i (by rw [List.length_set]; exact hic), getD_set, if_pos ⟨rfl, hic⟩]
      have hs1 := getD_map eI [] 0 c i hic
      have hs2 := getD_map eR [] [] t.rows i hil
      generalize combL t.p t.width.toNat (c.set i 0) t.rows = an at *
      have lset : (c.set i 0).length = c.length := List.length_set
      generalize c.set i 0 = q at *
      have hrl := (ht.rows _ (mem_getD [] t.rows i hil)).1
      generalize t.rows.getD i [] = r at *
      by_cases h0 : c.getD i 0 = 0
      · rw [if_pos h0] at e3
        rw [h0] at hs1
        have hq : i < q.length := by omega
        repeat' (first | simp (maxSteps := 9999999) only [↓GE, PL, PP, EE, QQ, seval, hz, hs1, hq, hic, eI, List.length_map] | (simp (disch := omega) only [IntWalk.i64_in]) | (refine go_brD (fun h => ?_) (fun h => ?_)) | (refine go_gsD (by ((try simp only [EE, QQ, seval]) <;> rfl)) (fun h => ?_) (fun h => ?_)) | (refine go_br (fun h => ?_) (fun h => ?_)) | (refine go_gs (by ((try simp only [EE, QQ, seval]) <;> rfl)) (fun h => ?_) (fun h => ?_)) | (apply go_call 5000 (e1) rfl rfl; (· ((try simp only [CC, LL, NM, EE, QQ, seval]) <;> (first | rfl | ((repeat constructor); done)))); (· exact CallForm.plain rfl); (· ((try simp only [CC, LL, NM, EE, QQ, seval]) <;> (first | rfl | ((repeat constructor); done)))); (· ((try simp only [CC, LL, NM, EE, QQ, seval]) <;> (first | rfl | ((repeat constructor); done))))) | (apply go_call 5000 (e2) rfl rfl; (· ((try simp only [CC, LL, NM, EE, QQ, seval]) <;> (first | rfl | ((repeat constructor); done)))); (· exact CallForm.plain rfl); (· ((try simp only [CC, LL, NM, EE, QQ, seval]) <;> (first | rfl | ((repeat constructor); done)))); (· ((try simp only [CC, LL, NM, EE, QQ, seval]) <;> (first | rfl | ((repeat constructor); done))))) | (apply go_call 5000 (e3) rfl rfl; (· ((try simp only [CC, LL, NM, EE, QQ, seval]) <;> (first | rfl | ((repeat constructor); done)))); (· exact CallForm.plain rfl); (· ((try simp only [CC, LL, NM, EE, QQ, seval]) <;> (first | rfl | ((repeat constructor); done)))); (· ((try simp only [CC, LL, NM, EE, QQ, seval]) <;> (first | rfl | ((repeat constructor); done))))) | (with_reducible apply And.intro) | (with_reducible exact trivial) | omega | (simp only [List.length_map, List.length_cons, List.length_nil] at *; omega) | (show _ = true; first | rfl | kernel_rfl))
        refine ⟨⟨i + 1, hil⟩, ?_, by simp only; omega⟩
        (simp only [GeS]; refine ⟨?_, ?_, ?_, ?_⟩; all_goals (repeat' (first | trivial | (with_reducible rfl) | simp only [CC, LL, EE, QQ, seval] | (with_reducible apply And.intro) | rfl | (refine ⟨_, rfl, ?_⟩) | (simp; done) | omega)))
      · rw [if_neg h0, hre h0] at e3
        have qz : (c.getD i 0 == 0) = false := by rw [beq_eq_false_iff_ne]; exact h0
        have hq : i < q.length := by omega
        generalize c.getD i 0 = x at *
        have e4 := ints31 r r (by omega) (by omega)
        rw [decide_eq_true rfl] at e4
        repeat' (first | simp (maxSteps := 9999999) only [↓GE, PL, PP, EE, QQ, seval, hz, hs1, hs2, hq, hic, hil, qz, eI, eR, List.length_map] | (simp (disch := omega) only [IntWalk.i64_in]) | (refine go_brD (fun h => ?_) (fun h => ?_)) | (refine go_gsD (by ((try simp only [EE, QQ, seval]) <;> rfl)) (fun h => ?_) (fun h => ?_)) | (refine go_br (fun h => ?_) (fun h => ?_)) | (refine go_gs (by ((try simp only [EE, QQ, seval]) <;> rfl)) (fun h => ?_) (fun h => ?_)) | (apply go_call 5000 (e1) rfl rfl; (· ((try simp only [CC, LL, NM, EE, QQ, seval]) <;> (first | rfl | ((repeat constructor); done)))); (· exact CallForm.plain rfl); (· ((try simp only [CC, LL, NM, EE, QQ, seval]) <;> (first | rfl | ((repeat constructor); done)))); (· ((try simp only [CC, LL, NM, EE, QQ, seval]) <;> (first | rfl | ((repeat constructor); done))))) | (apply go_call 5000 (e2) rfl rfl; (· ((try simp only [CC, LL, NM, EE, QQ, seval]) <;> (first | rfl | ((repeat constructor); done)))); (· exact CallForm.plain rfl); (· ((try simp only [CC, LL, NM, EE, QQ, seval]) <;> (first | rfl | ((repeat constructor); done)))); (· ((try simp only [CC, LL, NM, EE, QQ, seval]) <;> (first | rfl | ((repeat constructor); done))))) | (apply go_call 5000 (e3) rfl rfl; (· ((try simp only [CC, LL, NM, EE, QQ, seval]) <;> (first | rfl | ((repeat constructor); done)))); (· exact CallForm.plain rfl); (· ((try simp only [CC, LL, NM, EE, QQ, seval]) <;> (first | rfl | ((repeat constructor); done)))); (· ((try simp only [CC, LL, NM, EE, QQ, seval]) <;> (first | rfl | ((repeat constructor); done))))) | (apply go_call 5000 (e4) rfl rfl; (· ((try simp only [CC, LL, NM, EE, QQ, seval]) <;> (first | rfl | ((repeat constructor); done)))); (· exact CallForm.plain rfl); (· ((try simp only [CC, LL, NM, EE, QQ, seval]) <;> (first | rfl | ((repeat constructor); done)))); (· ((try simp only [CC, LL, NM, EE, QQ, seval]) <;> (first | rfl | ((repeat constructor); done))))) | (with_reducible apply And.intro) | (with_reducible exact trivial) | omega | (simp only [List.length_map, List.length_cons, List.length_nil] at *; omega) | (show _ = true; first | rfl | kernel_rfl))
        refine ⟨⟨i + 1, hil⟩, ?_, by simp only; omega⟩
        (simp only [GeS]; refine ⟨?_, ?_, ?_, ?_⟩; all_goals (repeat' (first | trivial | (with_reducible rfl) | simp only [CC, LL, EE, QQ, seval] | (with_reducible apply And.intro) | rfl | (refine ⟨_, rfl, ?_⟩) | (simp; done) | omega)))
    · obtain rfl : i = t.rows.length := by omega
      repeat' (first | simp (maxSteps := 9999999) only [↓GE, PL, PP, EE, QQ, seval] | (simp (disch := omega) only [IntWalk.i64_in]) | (refine go_brD (fun h => ?_) (fun h => ?_)) | (refine go_gsD (by ((try simp only [EE, QQ, seval]) <;> rfl)) (fun h => ?_) (fun h => ?_)) | (refine go_br (fun h => ?_) (fun h => ?_)) | (refine go_gs (by ((try simp only [EE, QQ, seval]) <;> rfl)) (fun h => ?_) (fun h => ?_)) | (with_reducible apply And.intro) | (with_reducible exact trivial) | omega | (simp only [List.length_map, List.length_cons, List.length_nil] at *; omega) | (show _ = true; first | rfl | kernel_rfl))
      all_goals ((first | apply ret_mk [] | apply end_mk []); (· ((try simp only [CC, LL, EE, QQ, seval]) <;> rfl)); (· ((try simp only [CC, LL, EE, QQ, seval]) <;> repeat' (first | (with_reducible apply And.intro) | rfl | trivial | (exact ⟨_, rfl⟩) | (exact ⟨_, _, _, rfl⟩) | (simp [*, ]; done) | (simp [*, ]; omega) | (simp_all []; done) | (simp_all []; omega)))); all_goals (first | trivial | decide | ((try simp only [CC, LL, EE, QQ, seval]) <;> repeat' (first | (with_reducible apply And.intro) | (exact ⟨_, rfl, rfl, rfl⟩) | (exact ⟨_, _, _, rfl⟩) | (exact ⟨_, rfl⟩) | trivial | rfl | (simp; done)))))
end Go.Proofs.Ytilkjcobkdjlkaa.Sim
