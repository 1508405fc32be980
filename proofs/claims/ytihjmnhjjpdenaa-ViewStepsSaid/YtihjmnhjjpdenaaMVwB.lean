/- Tapes, polynomials and shares of the document. -/
import Derived.Test.YtihjmnhjjpdenaaMVwA
namespace Go.Proofs.Ytihjmnhjjpdenaa.Sim
open Go
set_option maxRecDepth 100000
set_option maxHeartbeats 4000000
set_option linter.unusedVariables false
set_option linter.unusedSimpArgs false
attribute [local irreducible] Go Mean
noncomputable def fieldB (p : Int) : Bool := @decide (2 ≤ p ∧ p ≤ 65521 ∧ ∀ d : Int, 2 ≤ d → d * d ≤ p → p.tmod d ≠ 0) (Classical.propDecidable _)
theorem fieldB_iff {p : Int} : fieldB p = true ↔ 2 ≤ p ∧ p ≤ 65521 ∧ ∀ d : Int, 2 ≤ d → d * d ≤ p → p.tmod d ≠ 0 := by simp [fieldB]
theorem fieldB_no {p : Int} (h : ¬(2 ≤ p ∧ p ≤ 65521 ∧ ∀ d : Int, 2 ≤ d → d * d ≤ p → p.tmod d ≠ 0)) : fieldB p = false := by
  cases e : fieldB p with
  | false => rfl
  | true => exact absurd (fieldB_iff.1 e) h
theorem sq_ge {d : Int} (h : 0 ≤ d) : d ≤ d * d := by
  by_cases h0 : d = 0
  · subst h0; decide
  · have := Int.mul_le_mul_of_nonneg_right (show (1 : Int) ≤ d by omega) h
    rwa [Int.one_mul] at this
theorem sq_le {d e : Int} (h0 : 0 ≤ d) (h : d ≤ e) : d * d ≤ e * e := Int.mul_le_mul h h h0 (by omega)
theorem no_more {p d : Int} (hd : 2 ≤ d) (hp : 2 ≤ p) (hp2 : p ≤ 65521) (hn : ∀ e : Int, 2 ≤ e → e < d → p.tmod e ≠ 0) (h : ¬d * d ≤ p) : fieldB p = true := by
  refine fieldB_iff.2 ⟨hp, hp2, fun e he h2 => ?_⟩
  by_cases h3 : e < d
  · exact hn e he h3
  · have := sq_le (d := d) (e := e) (by omega) (by omega)
    omega
/-- An element of the field. -/
def inE (p x : Int) : Bool := decide (0 ≤ x) && decide (x < p)
theorem r3check (p : Int) : Does Try.prog 52 [.ag [I p]] [] (I (if fieldB p = true then 0 else 9)) [] [] := by
  refine go_ref03_Check rfl BxOK.nil fun cx hm0 => go_in 5000 ?_
  unfold ac_ref03_Check rs_ref03_Check
  repeat' (first | simp (maxSteps := 9999999) only [↓GE, PL, PP, EE, QQ, seval] | (simp (disch := omega) only [IntWalk.i64_in]) | (refine go_brD (fun h => ?_) (fun h => ?_)) | (refine go_gsD (by ((try simp only [EE, QQ, seval]) <;> rfl)) (fun h => ?_) (fun h => ?_)) | (refine go_br (fun h => ?_) (fun h => ?_)) | (refine go_gs (by ((try simp only [EE, QQ, seval]) <;> rfl)) (fun h => ?_) (fun h => ?_)) | (with_reducible apply And.intro) | (with_reducible exact trivial) | omega | (simp only [List.length_map, List.length_cons, List.length_nil] at *; omega) | (show _ = true; first | rfl | kernel_rfl))
  · have hf : fieldB p = false := fieldB_no (by omega)
    ((first | apply ret_mk [] | apply end_mk []); (· ((try simp only [CC, LL, EE, QQ, seval]) <;> rfl)); (· ((try simp only [CC, LL, EE, QQ, seval]) <;> repeat' (first | (with_reducible apply And.intro) | rfl | trivial | (exact ⟨_, rfl⟩) | (exact ⟨_, _, _, rfl⟩) | (simp [*, hf]; done) | (simp [*, hf]; omega) | (simp_all [hf]; done) | (simp_all [hf]; omega)))); all_goals (first | trivial | decide | ((try simp only [CC, LL, EE, QQ, seval]) <;> repeat' (first | (with_reducible apply And.intro) | (exact ⟨_, rfl, rfl, rfl⟩) | (exact ⟨_, _, _, rfl⟩) | (exact ⟨_, rfl⟩) | trivial | rfl | (simp; done)))))
  · have hf : fieldB p = false := fieldB_no (by omega)
    ((first | apply ret_mk [] | apply end_mk []); (· ((try simp only [CC, LL, EE, QQ, seval]) <;> rfl)); (· ((try simp only [CC, LL, EE, QQ, seval]) <;> repeat' (first | (with_reducible apply And.intro) | rfl | trivial | (exact ⟨_, rfl⟩) | (exact ⟨_, _, _, rfl⟩) | (simp [*, hf]; done) | (simp [*, hf]; omega) | (simp_all [hf]; done) | (simp_all [hf]; omega)))); all_goals (first | trivial | decide | ((try simp only [CC, LL, EE, QQ, seval]) <;> repeat' (first | (with_reducible apply And.intro) | (exact ⟨_, rfl, rfl, rfl⟩) | (exact ⟨_, _, _, rfl⟩) | (exact ⟨_, rfl⟩) | trivial | rfl | (simp; done)))))
  refine go_loop 5000 hm0 (ι := {d : Int // 2 ≤ d ∧ d ≤ 65522 ∧ ∀ e : Int, 2 ≤ e → e < d → p.tmod e ≠ 0}) (fun i => [(1, .bp 1 0 0), (2, I 0), (3, I i.1)]) (fun i => [(1, .box 0 [I p])]) (fun i => (65523 - i.1).toNat) [] ⟨2, by omega, by omega, fun e h1 h2 => by omega⟩ ?_ ?_
  · (simp only [GeS]; refine ⟨?_, ?_, ?_, ?_⟩; all_goals (repeat' (first | (with_reducible exact True.intro) | (with_reducible rfl) | simp only [CC, LL, EE, QQ, seval, List.contains_nil, Bool.false_eq_true, ↓reduceIte, Option.some.injEq, O.arr.injEq, true_and, and_true] | (with_reducible apply And.intro) | (refine ⟨_, rfl, ?_⟩) | (simp; done) | rfl | omega | trivial)))
  · rintro ⟨d, hd, hd2, hn⟩
    have hb := sq_le (show (0 : Int) ≤ d by omega) hd2
    have hb2 := sq_ge (show (0 : Int) ≤ d by omega)
    repeat' (first | simp (maxSteps := 9999999) only [↓GE, PL, PP, EE, QQ, seval] | (simp (disch := omega) only [IntWalk.i64_in]) | (refine go_brD (fun h => ?_) (fun h => ?_)) | (refine go_gsD (by ((try simp only [EE, QQ, seval]) <;> rfl)) (fun h => ?_) (fun h => ?_)) | (refine go_br (fun h => ?_) (fun h => ?_)) | (refine go_gs (by ((try simp only [EE, QQ, seval]) <;> rfl)) (fun h => ?_) (fun h => ?_)) | (with_reducible apply And.intro) | (with_reducible exact trivial) | omega | (simp only [List.length_map, List.length_cons, List.length_nil] at *; omega) | (show _ = true; first | rfl | kernel_rfl))
    · rename_i h
      have hf : fieldB p = false := fieldB_no fun hh => hh.2.2 d hd (by assumption) (by simpa using h)
      ((first | apply ret_mk [] | apply end_mk []); (· ((try simp only [CC, LL, EE, QQ, seval]) <;> rfl)); (· ((try simp only [CC, LL, EE, QQ, seval]) <;> repeat' (first | (with_reducible apply And.intro) | rfl | trivial | (exact ⟨_, rfl⟩) | (exact ⟨_, _, _, rfl⟩) | (simp [*, hf]; done) | (simp [*, hf]; omega) | (simp_all [hf]; done) | (simp_all [hf]; omega)))); all_goals (first | trivial | decide | ((try simp only [CC, LL, EE, QQ, seval]) <;> repeat' (first | (with_reducible apply And.intro) | (exact ⟨_, rfl, rfl, rfl⟩) | (exact ⟨_, _, _, rfl⟩) | (exact ⟨_, rfl⟩) | trivial | rfl | (simp; done)))))
    · rename_i h
      refine ⟨⟨d + 1, by omega, by omega, fun e h1 h2 => ?_⟩, ?_, by simp only; omega⟩
      · by_cases he : e = d
        · subst he; simpa using h
        · exact hn e h1 (by omega)
      · (simp only [GeS]; refine ⟨?_, ?_, ?_, ?_⟩; all_goals (repeat' (first | (with_reducible exact True.intro) | (with_reducible rfl) | simp only [CC, LL, EE, QQ, seval, List.contains_nil, Bool.false_eq_true, ↓reduceIte, Option.some.injEq, O.arr.injEq, true_and, and_true] | (with_reducible apply And.intro) | (refine ⟨_, rfl, ?_⟩) | (simp; done) | rfl | omega | trivial)))
    · have hf : fieldB p = true := no_more hd (by omega) (by omega) hn (by assumption)
      ((first | apply ret_mk [] | apply end_mk []); (· ((try simp only [CC, LL, EE, QQ, seval]) <;> rfl)); (· ((try simp only [CC, LL, EE, QQ, seval]) <;> repeat' (first | (with_reducible apply And.intro) | rfl | trivial | (exact ⟨_, rfl⟩) | (exact ⟨_, _, _, rfl⟩) | (simp [*, hf]; done) | (simp [*, hf]; omega) | (simp_all [hf]; done) | (simp_all [hf]; omega)))); all_goals (first | trivial | decide | ((try simp only [CC, LL, EE, QQ, seval]) <;> repeat' (first | (with_reducible apply And.intro) | (exact ⟨_, rfl, rfl, rfl⟩) | (exact ⟨_, _, _, rfl⟩) | (exact ⟨_, rfl⟩) | trivial | rfl | (simp; done)))))
theorem r3in (p : Int) (l : List Int) (hl : l.length ≤ 17592186044416) : Does Try.prog 72 [.ag [I p], .d (dInts l)] [] (B (fieldB p && l.all (inE p))) [] [] := by
  refine go_ref03_In rfl BxOK.nil fun cx hm0 => go_in 5000 ?_
  unfold ac_ref03_In rs_ref03_In
  cases hf : fieldB p with
  | false =>
    repeat' (first | simp (maxSteps := 9999999) only [↓GE, PL, PP, EE, QQ, seval, hf] | (simp (disch := omega) only [IntWalk.i64_in]) | (refine go_brD (fun h => ?_) (fun h => ?_)) | (refine go_gsD (by ((try simp only [EE, QQ, seval]) <;> rfl)) (fun h => ?_) (fun h => ?_)) | (refine go_br (fun h => ?_) (fun h => ?_)) | (refine go_gs (by ((try simp only [EE, QQ, seval]) <;> rfl)) (fun h => ?_) (fun h => ?_)) | (apply go_call 5000 (r3check p) rfl rfl; iterate 4 (first | (exact CallForm.plain rfl) | ((try simp only [CC, LL, NM, EE, QQ, seval]) <;> (first | rfl | ((repeat constructor); done))))) | (with_reducible apply And.intro) | (with_reducible exact trivial) | omega | (simp only [List.length_map, List.length_cons, List.length_nil] at *; omega) | (show _ = true; first | rfl | kernel_rfl))
    all_goals ((first | apply ret_mk [] | apply end_mk []); (· ((try simp only [CC, LL, EE, QQ, seval]) <;> rfl)); (· ((try simp only [CC, LL, EE, QQ, seval]) <;> repeat' (first | (with_reducible apply And.intro) | rfl | trivial | (exact ⟨_, rfl⟩) | (exact ⟨_, _, _, rfl⟩) | (simp [*, hf]; done) | (simp [*, hf]; omega) | (simp_all [hf]; done) | (simp_all [hf]; omega)))); all_goals (first | trivial | decide | ((try simp only [CC, LL, EE, QQ, seval]) <;> repeat' (first | (with_reducible apply And.intro) | (exact ⟨_, rfl, rfl, rfl⟩) | (exact ⟨_, _, _, rfl⟩) | (exact ⟨_, rfl⟩) | trivial | rfl | (simp; done)))))
  | true =>
    repeat' (first | simp (maxSteps := 9999999) only [↓GE, PL, PP, EE, QQ, seval, hf] | (simp (disch := omega) only [IntWalk.i64_in]) | (refine go_brD (fun h => ?_) (fun h => ?_)) | (refine go_gsD (by ((try simp only [EE, QQ, seval]) <;> rfl)) (fun h => ?_) (fun h => ?_)) | (refine go_br (fun h => ?_) (fun h => ?_)) | (refine go_gs (by ((try simp only [EE, QQ, seval]) <;> rfl)) (fun h => ?_) (fun h => ?_)) | (apply go_call 5000 (r3check p) rfl rfl; iterate 4 (first | (exact CallForm.plain rfl) | ((try simp only [CC, LL, NM, EE, QQ, seval]) <;> (first | rfl | ((repeat constructor); done))))) | (with_reducible apply And.intro) | (with_reducible exact trivial) | omega | (simp only [List.length_map, List.length_cons, List.length_nil] at *; omega) | (show _ = true; first | rfl | kernel_rfl))
    refine go_loop 5000 hm0 (ι := {k : Nat // k ≤ l.length ∧ l.all (inE p) = (l.drop k).all (inE p)}) (fun i => [(2, .bp 2 0 0), (4, B false), (10, .d (dInts l)), (11, I l.length), (12, I i.1)]) (fun i => [(2, .box 0 [I p])]) (fun i => l.length - i.1) [] ⟨0, by simp⟩ ?_ ?_
    · (simp only [GeS]; refine ⟨?_, ?_, ?_, ?_⟩; all_goals (repeat' (first | (with_reducible exact True.intro) | (with_reducible rfl) | simp only [CC, LL, EE, QQ, seval, List.contains_nil, Bool.false_eq_true, ↓reduceIte, Option.some.injEq, O.arr.injEq, true_and, and_true] | (with_reducible apply And.intro) | (refine ⟨_, rfl, ?_⟩) | (simp; done) | rfl | omega | trivial)))
    · rintro ⟨k, hk, hv⟩
      by_cases hkl : k < l.length
      · have hs := getD_map eI [] 0 l k hkl
        rw [drop_get 0 _ _ hkl] at hv
        generalize l.getD k 0 = s at hs hv
        simp only [List.all_cons] at hv
        repeat' (first | simp (maxSteps := 9999999) only [↓GE, PL, PP, EE, QQ, seval, hs, eI] | (simp (disch := omega) only [IntWalk.i64_in]) | (refine go_brD (fun h => ?_) (fun h => ?_)) | (refine go_gsD (by ((try simp only [EE, QQ, seval]) <;> rfl)) (fun h => ?_) (fun h => ?_)) | (refine go_br (fun h => ?_) (fun h => ?_)) | (refine go_gs (by ((try simp only [EE, QQ, seval]) <;> rfl)) (fun h => ?_) (fun h => ?_)) | (with_reducible apply And.intro) | (with_reducible exact trivial) | omega | (simp only [List.length_map, List.length_cons, List.length_nil] at *; omega) | (show _ = true; first | rfl | kernel_rfl))
        any_goals ((first | apply ret_mk [] | apply end_mk []); (· ((try simp only [CC, LL, EE, QQ, seval]) <;> rfl)); (· ((try simp only [CC, LL, EE, QQ, seval]) <;> repeat' (first | (with_reducible apply And.intro) | rfl | trivial | (exact ⟨_, rfl⟩) | (exact ⟨_, _, _, rfl⟩) | (simp [*, hv, inE]; done) | (simp [*, hv, inE]; omega) | (simp_all [hv, inE]; done) | (simp_all [hv, inE]; omega)))); all_goals (first | trivial | decide | ((try simp only [CC, LL, EE, QQ, seval]) <;> repeat' (first | (with_reducible apply And.intro) | (exact ⟨_, rfl, rfl, rfl⟩) | (exact ⟨_, _, _, rfl⟩) | (exact ⟨_, rfl⟩) | trivial | rfl | (simp; done)))))
        refine ⟨⟨k + 1, hkl, ?_⟩, ?_, by simp only; omega⟩
        · rw [hv, show inE p s = true by simp only [inE, Bool.and_eq_true, decide_eq_true_eq]; omega, Bool.true_and]
        (simp only [GeS]; refine ⟨?_, ?_, ?_, ?_⟩; all_goals (repeat' (first | (with_reducible exact True.intro) | (with_reducible rfl) | simp only [CC, LL, EE, QQ, seval, List.contains_nil, Bool.false_eq_true, ↓reduceIte, Option.some.injEq, O.arr.injEq, true_and, and_true] | (with_reducible apply And.intro) | (refine ⟨_, rfl, ?_⟩) | (simp; done) | rfl | omega | trivial)))
      · have : k = l.length := by omega
        subst this
        simp only [List.drop_length, List.all_nil] at hv
        repeat' (first | simp (maxSteps := 9999999) only [↓GE, PL, PP, EE, QQ, seval] | (simp (disch := omega) only [IntWalk.i64_in]) | (refine go_brD (fun h => ?_) (fun h => ?_)) | (refine go_gsD (by ((try simp only [EE, QQ, seval]) <;> rfl)) (fun h => ?_) (fun h => ?_)) | (refine go_br (fun h => ?_) (fun h => ?_)) | (refine go_gs (by ((try simp only [EE, QQ, seval]) <;> rfl)) (fun h => ?_) (fun h => ?_)) | (with_reducible apply And.intro) | (with_reducible exact trivial) | omega | (simp only [List.length_map, List.length_cons, List.length_nil] at *; omega) | (show _ = true; first | rfl | kernel_rfl))
        all_goals ((first | apply ret_mk [] | apply end_mk []); (· ((try simp only [CC, LL, EE, QQ, seval]) <;> rfl)); (· ((try simp only [CC, LL, EE, QQ, seval]) <;> repeat' (first | (with_reducible apply And.intro) | rfl | trivial | (exact ⟨_, rfl⟩) | (exact ⟨_, _, _, rfl⟩) | (simp [*, hv]; done) | (simp [*, hv]; omega) | (simp_all [hv]; done) | (simp_all [hv]; omega)))); all_goals (first | trivial | decide | ((try simp only [CC, LL, EE, QQ, seval]) <;> repeat' (first | (with_reducible apply And.intro) | (exact ⟨_, rfl, rfl, rfl⟩) | (exact ⟨_, _, _, rfl⟩) | (exact ⟨_, rfl⟩) | trivial | rfl | (simp; done)))))
theorem okP.field {p : Int} (h : okP p) : fieldB p = true := by
  refine fieldB_iff.2 ⟨?_, ?_, fun d hd hdd => ?_⟩
  · rcases h with rfl | rfl | rfl | rfl <;> omega
  · rcases h with rfl | rfl | rfl | rfl <;> omega
  · have h17 : d < 17 := by
      rcases Int.lt_or_le d 17 with h1 | h1
      · exact h1
      · have := sq_le (d := 17) (e := d) (by omega) h1
        rcases h with rfl | rfl | rfl | rfl <;> omega
    obtain ⟨n, rfl⟩ : ∃ n : Nat, d = n := ⟨d.toNat, by omega⟩
    have hn : n < 17 := by omega
    have hn2 : 2 ≤ n := by omega
    have key : ∀ n : Fin 17, 2 ≤ n.1 → ∀ p : Int, (p = 7 ∨ p = 11 ∨ p = 13 ∨ p = 257) → (n.1 : Int) * n.1 ≤ p → p.tmod (n.1 : Int) ≠ 0 := by
      intro n hn p hp
      rcases hp with rfl | rfl | rfl | rfl
      · revert n; decide
      · revert n; decide
      · revert n; decide
      · revert n; decide
    exact key ⟨n, hn⟩ hn2 p h hdd
theorem okP.le {p : Int} (h : okP p) : 7 ≤ p ∧ p ≤ 257 := by rcases h with rfl | rfl | rfl | rfl <;> omega
/-- Elements of the field. -/
def inF (p : Int) (l : List Int) : Prop := ∀ x ∈ l, 0 ≤ x ∧ x < p
theorem inF.all {p : Int} {l : List Int} (h : inF p l) : l.all (inE p) = true := by
  rw [List.all_eq_true]
  intro x hx
  have := h x hx
  simp [inE, this.1, this.2]
theorem inF.get {p : Int} {l : List Int} (h : inF p l) {k : Nat} (hk : k < l.length) : 0 ≤ l.getD k 0 ∧ l.getD k 0 < p := h _ (mem_getD 0 l k hk)
theorem check3 {p : Int} (hp : okP p) : Does Try.prog 52 [.ag [I p]] [] (I 0) [] [] := by
  have := r3check p
  rwa [hp.field, if_pos rfl] at this
theorem in3 {p : Int} (hp : okP p) (l : List Int) (hl : l.length ≤ 17592186044416) (h : inF p l) : Does Try.prog 72 [.ag [I p], .d (dInts l)] [] (B true) [] [] := by
  have := r3in p l hl
  rwa [hp.field, h.all] at this
theorem valid2 (t : List Int) (a : Nat) (ht : t.length ≤ 16384) (ha : a ≤ t.length) : Does Try.prog 70 [vTape t a] [] (B true) [] [] := by
  refine go_ref02_Valid rfl BxOK.nil fun cx hm0 => go_in 5000 ?_
  unfold ac_ref02_Valid rs_ref02_Valid
  have q1 : decide ((t.length : Int) ≤ 16384) = true := decide_eq_true (by omega)
  have q2 : decide ((a : Int) ≥ 0) = true := decide_eq_true (by omega)
  have q3 : decide ((a : Int) ≤ (t.length : Int)) = true := decide_eq_true (by omega)
  repeat' (first | simp (maxSteps := 9999999) only [↓GE, PL, PP, EE, QQ, seval, q1, q2, q3, List.length_map] | (simp (disch := omega) only [IntWalk.i64_in]) | (refine go_brD (fun h => ?_) (fun h => ?_)) | (refine go_gsD (by ((try simp only [EE, QQ, seval]) <;> rfl)) (fun h => ?_) (fun h => ?_)) | (refine go_br (fun h => ?_) (fun h => ?_)) | (refine go_gs (by ((try simp only [EE, QQ, seval]) <;> rfl)) (fun h => ?_) (fun h => ?_)) | (with_reducible apply And.intro) | (with_reducible exact trivial) | omega | (simp only [List.length_map, List.length_cons, List.length_nil] at *; omega) | (show _ = true; first | rfl | kernel_rfl))
  all_goals ((first | apply ret_mk [] | apply end_mk []); (· ((try simp only [CC, LL, EE, QQ, seval]) <;> rfl)); (· ((try simp only [CC, LL, EE, QQ, seval]) <;> repeat' (first | (with_reducible apply And.intro) | rfl | trivial | (exact ⟨_, rfl⟩) | (exact ⟨_, _, _, rfl⟩) | (simp [*, ]; done) | (simp [*, ]; omega) | (simp_all []; done) | (simp_all []; omega)))); all_goals (first | trivial | decide | ((try simp only [CC, LL, EE, QQ, seval]) <;> repeat' (first | (with_reducible apply And.intro) | (exact ⟨_, rfl, rfl, rfl⟩) | (exact ⟨_, _, _, rfl⟩) | (exact ⟨_, rfl⟩) | trivial | rfl | (simp; done)))))
theorem copy2 (t : List Int) (a : Nat) (ht : t.length ≤ 16384) : Does Try.prog 71 [vTape t a] [] (vTape t a) [] [] := by
  refine go_ref02_Copy rfl BxOK.nil fun cx hm0 => go_in 5000 ?_
  unfold ac_ref02_Copy rs_ref02_Copy
  repeat' (first | simp (maxSteps := 9999999) only [↓GE, PL, PP, EE, QQ, seval, List.length_map] | (simp (disch := omega) only [IntWalk.i64_in]) | (refine go_brD (fun h => ?_) (fun h => ?_)) | (refine go_gsD (by ((try simp only [EE, QQ, seval]) <;> rfl)) (fun h => ?_) (fun h => ?_)) | (refine go_br (fun h => ?_) (fun h => ?_)) | (refine go_gs (by ((try simp only [EE, QQ, seval]) <;> rfl)) (fun h => ?_) (fun h => ?_)) | (with_reducible apply And.intro) | (with_reducible exact trivial) | omega | (simp only [List.length_map, List.length_cons, List.length_nil] at *; omega) | (show _ = true; first | rfl | kernel_rfl))
  all_goals ((first | apply ret_mk [] | apply end_mk []); (· ((try simp only [CC, LL, EE, QQ, seval]) <;> rfl)); (· ((try simp only [CC, LL, EE, QQ, seval]) <;> repeat' (first | (with_reducible apply And.intro) | rfl | trivial | (exact ⟨_, rfl⟩) | (exact ⟨_, _, _, rfl⟩) | (simp [*, ]; done) | (simp [*, ]; omega) | (simp_all []; done) | (simp_all []; omega)))); all_goals (first | trivial | decide | ((try simp only [CC, LL, EE, QQ, seval]) <;> repeat' (first | (with_reducible apply And.intro) | (exact ⟨_, rfl, rfl, rfl⟩) | (exact ⟨_, _, _, rfl⟩) | (exact ⟨_, rfl⟩) | trivial | rfl | (simp; done)))))
theorem getD_drop' (l : List Int) (a k : Nat) : (l.drop a).getD k 0 = l.getD (a + k) 0 := by simp [List.getD_eq_getElem?_getD]
theorem draws2 {p : Int} (hp1 : 1 ≤ p) (hp2 : p ≤ 2147483647) (t : List Int) (a n : Nat) (ht : t.length ≤ 16384) (ha : a + n ≤ t.length) (hin : inF p t) : Does Try.prog 66 [vTape t a, I p, I n] [] (.tu [vTape t ((a + n : Nat) : Int), .d (dInts ((t.drop a).take n)), I 0]) [] [] := by
  refine go_ref02_Draws rfl BxOK.nil fun cx hm0 => go_in 5000 ?_
  unfold ac_ref02_Draws rs_ref02_Draws
  have q1 : decide (p < 1) = false := decide_eq_false (by omega)
  have q2 : decide (p > 2147483647) = false := decide_eq_false (by omega)
  have q3 : decide ((n : Int) < 0) = false := decide_eq_false (by omega)
  repeat' (first | simp (maxSteps := 9999999) only [↓GE, PL, PP, EE, QQ, seval, q1, q2, q3, List.length_map] | (simp (disch := omega) only [IntWalk.i64_in]) | (refine go_brD (fun h => ?_) (fun h => ?_)) | (refine go_gsD (by ((try simp only [EE, QQ, seval]) <;> rfl)) (fun h => ?_) (fun h => ?_)) | (refine go_br (fun h => ?_) (fun h => ?_)) | (refine go_gs (by ((try simp only [EE, QQ, seval]) <;> rfl)) (fun h => ?_) (fun h => ?_)) | (apply go_call 5000 (valid2 t a ht (by omega)) rfl rfl; iterate 4 (first | (exact CallForm.plain rfl) | ((try simp only [CC, LL, NM, EE, QQ, seval]) <;> (first | rfl | ((repeat constructor); done))))) | (apply go_call 5000 (copy2 t a ht) rfl rfl; iterate 4 (first | (exact CallForm.plain rfl) | ((try simp only [CC, LL, NM, EE, QQ, seval]) <;> (first | rfl | ((repeat constructor); done))))) | (with_reducible apply And.intro) | (with_reducible exact trivial) | omega | (simp only [List.length_map, List.length_cons, List.length_nil] at *; omega) | (show _ = true; first | rfl | kernel_rfl))
  refine go_loop 5000 hm0 (ι := {q : Nat × Nat // q.1 ≤ n}) (fun i => [(1, I p), (2, I n), (3, .bp 3 0 0), (6, .bp 6 0 0), (9, .og 62 i.1.2), (10, I i.1.1)]) (fun i => [(3, .box 0 [.d (dInts t), I ((a + i.1.1 : Nat) : Int)]), (6, .box 0 [.nl 1, I 0]), (62, .arr i.1.2 1 true (((t.drop a).take i.1.1).map eI))]) (fun i => n - i.1.1) [62] ⟨(0, 0), Nat.zero_le _⟩ ?_ ?_
  · (simp only [GeS]; refine ⟨?_, ?_, ?_, ?_⟩; all_goals (repeat' (first | (with_reducible exact True.intro) | (with_reducible rfl) | simp only [CC, LL, EE, QQ, seval, List.contains_nil, Bool.false_eq_true, ↓reduceIte, Option.some.injEq, O.arr.injEq, true_and, and_true] | (with_reducible apply And.intro) | (refine ⟨_, rfl, ?_⟩) | (simp; done) | rfl | omega | trivial)))
  · rintro ⟨⟨k, v⟩, hk⟩
    simp only at hk
    by_cases hkn : k < n
    · have hs := getD_map eI [] 0 t (a + k) (by omega)
      have hx := hin.get (k := a + k) (by omega)
      have htk := take_succ_getD 0 (t.drop a) k (by rw [List.length_drop]; omega)
      rw [getD_drop'] at htk
      have hlen : ((t.drop a).take k).length = k := by rw [List.length_take, List.length_drop]; omega
      have q4 : (((a + k : Nat) : Int) == (t.length : Int)) = false := by rw [beq_eq_false_iff_ne]; omega
      have q5 : decide ((k : Int) < (n : Int)) = true := decide_eq_true (by omega)
      generalize t.getD (a + k) 0 = x at *
      have q6 : decide (x < 0) = false := decide_eq_false (by omega)
      have q7 : decide (x ≥ p) = false := decide_eq_false (by omega)
      have w1 : IntKind.i64.wrap (((a + k : Nat) : Int) + 1) = ((a + (k + 1) : Nat) : Int) := by rw [show ((a + k : Nat) : Int) + 1 = ((a + (k + 1) : Nat) : Int) by omega]; exact IntWalk.i64_in _ (by omega)
      repeat' (first | simp (maxSteps := 9999999) only [↓GE, PL, PP, EE, QQ, seval, hs, q4, q5, q6, q7, w1, hlen, eI, List.length_map] | (simp (disch := omega) only [IntWalk.i64_in]) | (refine go_brD (fun h => ?_) (fun h => ?_)) | (refine go_gsD (by ((try simp only [EE, QQ, seval]) <;> rfl)) (fun h => ?_) (fun h => ?_)) | (refine go_br (fun h => ?_) (fun h => ?_)) | (refine go_gs (by ((try simp only [EE, QQ, seval]) <;> rfl)) (fun h => ?_) (fun h => ?_)) | (with_reducible apply And.intro) | (with_reducible exact trivial) | omega | (simp only [List.length_map, List.length_cons, List.length_nil] at *; omega) | (show _ = true; first | rfl | kernel_rfl))
      refine ⟨⟨(k + 1, v + 1), hkn⟩, ?_, by simp only; omega⟩
      (simp only [GeS]; refine ⟨?_, ?_, ?_, ?_⟩; all_goals (repeat' (first | (with_reducible exact True.intro) | (with_reducible rfl) | simp only [CC, LL, EE, QQ, seval, List.contains_nil, Bool.false_eq_true, ↓reduceIte, Option.some.injEq, O.arr.injEq, true_and, and_true] | (with_reducible apply And.intro) | (refine ⟨_, rfl, ?_⟩) | (simp [htk, eI]; done) | rfl | omega | trivial)))
    · obtain rfl : k = n := by omega
      have q5 : decide ((k : Int) < (k : Int)) = false := decide_eq_false (by omega)
      repeat' (first | simp (maxSteps := 9999999) only [↓GE, PL, PP, EE, QQ, seval, q5] | (simp (disch := omega) only [IntWalk.i64_in]) | (refine go_brD (fun h => ?_) (fun h => ?_)) | (refine go_gsD (by ((try simp only [EE, QQ, seval]) <;> rfl)) (fun h => ?_) (fun h => ?_)) | (refine go_br (fun h => ?_) (fun h => ?_)) | (refine go_gs (by ((try simp only [EE, QQ, seval]) <;> rfl)) (fun h => ?_) (fun h => ?_)) | (with_reducible apply And.intro) | (with_reducible exact trivial) | omega | (simp only [List.length_map, List.length_cons, List.length_nil] at *; omega) | (show _ = true; first | rfl | kernel_rfl))
      all_goals ((first | apply ret_mk [] | apply end_mk []); (· ((try simp only [CC, LL, EE, QQ, seval]) <;> rfl)); (· ((try simp only [CC, LL, EE, QQ, seval]) <;> repeat' (first | (with_reducible apply And.intro) | rfl | trivial | (exact ⟨_, rfl⟩) | (exact ⟨_, _, _, rfl⟩) | (simp [*, ]; done) | (simp [*, ]; omega) | (simp_all []; done) | (simp_all []; omega)))); all_goals (first | trivial | decide | ((try simp only [CC, LL, EE, QQ, seval]) <;> repeat' (first | (with_reducible apply And.intro) | (exact ⟨_, rfl, rfl, rfl⟩) | (exact ⟨_, _, _, rfl⟩) | (exact ⟨_, rfl⟩) | trivial | rfl | (simp; done)))))
/-- The value of a polynomial. -/
def polyV (p x : Int) : List Int → Int
  | [] => 0
  | c :: r => (polyV p x r * x + c).tmod p
theorem mul_lt' {a b m : Int} (h1 : 0 ≤ a) (h2 : a ≤ m) (h3 : 0 ≤ b) (h4 : b ≤ m) (hm : m ≤ 300) : 0 ≤ a * b ∧ a * b ≤ 90000 := by
  refine ⟨Int.mul_nonneg h1 h3, ?_⟩
  have := Int.mul_le_mul (a := a) (b := b) (c := 300) (d := 300) (by omega) (by omega) h3 (by omega)
  omega
theorem polyV_in {p x : Int} (hp : okP p) (hx : 0 ≤ x ∧ x < p) : ∀ {f : List Int}, inF p f → 0 ≤ polyV p x f ∧ polyV p x f < p
  | [], _ => by have := hp.le; simp only [polyV]; omega
  | c :: r, h => by
    have ih := polyV_in hp hx (f := r) fun y hy => h y (by simp [hy])
    have hc := h c (by simp)
    have hl := hp.le
    have hm := mul_lt' (a := polyV p x r) (b := x) (m := 300) ih.1 (by omega) hx.1 (by omega) (by omega)
    simp only [polyV]
    rw [Int.tmod_eq_emod_of_nonneg (by omega)]
    exact ⟨Int.emod_nonneg _ (by omega), Int.emod_lt_of_pos _ (by omega)⟩
theorem value5 {p : Int} (hp : okP p) (f : List Int) (x : Int) (hf : inF p f) (hx : 0 ≤ x ∧ x < p) (hl : f.length ≤ 512) : Does Try.prog 74 [.ag [I p], .d (dInts f), I x] [] (I (polyV p x f)) [] [] := by
  refine go_ref05_value rfl BxOK.nil fun cx hm0 => go_in 5000 ?_
  unfold ac_ref05_value rs_ref05_value
  have hpl := hp.le
  have w0 : IntKind.i64.wrap ((f.length : Int) - 1) = (f.length : Int) - 1 := IntWalk.i64_in _ (by omega)
  repeat' (first | simp (maxSteps := 9999999) only [↓GE, PL, PP, EE, QQ, seval, w0, List.length_map] | (simp (disch := omega) only [IntWalk.i64_in]) | (refine go_brD (fun h => ?_) (fun h => ?_)) | (refine go_gsD (by ((try simp only [EE, QQ, seval]) <;> rfl)) (fun h => ?_) (fun h => ?_)) | (refine go_br (fun h => ?_) (fun h => ?_)) | (refine go_gs (by ((try simp only [EE, QQ, seval]) <;> rfl)) (fun h => ?_) (fun h => ?_)) | (with_reducible apply And.intro) | (with_reducible exact trivial) | omega | (simp only [List.length_map, List.length_cons, List.length_nil] at *; omega) | (show _ = true; first | rfl | kernel_rfl))
  refine go_loop 5000 hm0 (ι := {k : Nat // k ≤ f.length}) (fun i => [(1, .d (dInts f)), (2, I x), (3, .bp 3 0 0), (7, I (polyV p x (f.drop i.1))), (8, I ((i.1 : Int) - 1))]) (fun i => [(3, .box 0 [I p])]) (fun i => i.1) [] ⟨f.length, Nat.le_refl _⟩ ?_ ?_
  · (simp only [GeS]; refine ⟨?_, ?_, ?_, ?_⟩; all_goals (repeat' (first | (with_reducible exact True.intro) | (with_reducible rfl) | simp only [CC, LL, EE, QQ, seval, List.contains_nil, Bool.false_eq_true, ↓reduceIte, Option.some.injEq, O.arr.injEq, true_and, and_true] | (with_reducible apply And.intro) | (refine ⟨_, rfl, ?_⟩) | (simp [polyV]; done) | rfl | omega | trivial)))
  · rintro ⟨k, hk⟩
    simp only
    cases k with
    | zero =>
      have q : decide (((0 : Nat) : Int) - 1 ≥ 0) = false := by decide
      repeat' (first | simp (maxSteps := 9999999) only [↓GE, PL, PP, EE, QQ, seval, q] | (simp (disch := omega) only [IntWalk.i64_in]) | (refine go_brD (fun h => ?_) (fun h => ?_)) | (refine go_gsD (by ((try simp only [EE, QQ, seval]) <;> rfl)) (fun h => ?_) (fun h => ?_)) | (refine go_br (fun h => ?_) (fun h => ?_)) | (refine go_gs (by ((try simp only [EE, QQ, seval]) <;> rfl)) (fun h => ?_) (fun h => ?_)) | (with_reducible apply And.intro) | (with_reducible exact trivial) | omega | (simp only [List.length_map, List.length_cons, List.length_nil] at *; omega) | (show _ = true; first | rfl | kernel_rfl))
      all_goals ((first | apply ret_mk [] | apply end_mk []); (· ((try simp only [CC, LL, EE, QQ, seval]) <;> rfl)); (· ((try simp only [CC, LL, EE, QQ, seval]) <;> repeat' (first | (with_reducible apply And.intro) | rfl | trivial | (exact ⟨_, rfl⟩) | (exact ⟨_, _, _, rfl⟩) | (simp [*, ]; done) | (simp [*, ]; omega) | (simp_all []; done) | (simp_all []; omega)))); all_goals (first | trivial | decide | ((try simp only [CC, LL, EE, QQ, seval]) <;> repeat' (first | (with_reducible apply And.intro) | (exact ⟨_, rfl, rfl, rfl⟩) | (exact ⟨_, _, _, rfl⟩) | (exact ⟨_, rfl⟩) | trivial | rfl | (simp; done)))))
    | succ k =>
      have q : decide (((k + 1 : Nat) : Int) - 1 ≥ 0) = true := decide_eq_true (by omega)
      have hd := drop_get 0 f k (by omega)
      have hs := getD_map eI [] 0 f k (by omega)
      have hc := hf.get (k := k) (by omega)
      have hv := polyV_in hp hx (f := f.drop (k + 1)) fun y hy => hf y (List.mem_of_mem_drop hy)
      have hP : polyV p x (f.drop k) = (polyV p x (f.drop (k + 1)) * x + f.getD k 0).tmod p := by rw [hd]; rfl
      generalize f.getD k 0 = c at *
      generalize polyV p x (f.drop (k + 1)) = y at *
      have hm := mul_lt' (a := y) (b := x) (m := 300) hv.1 (by omega) hx.1 (by omega) (by omega)
      have w1 : IntKind.i64.wrap (y * x) = y * x := IntWalk.i64_in _ (by omega)
      have w2 : IntKind.i64.wrap (y * x + c) = y * x + c := IntWalk.i64_in _ (by omega)
      have hm1 : 0 ≤ (y * x + c).tmod p ∧ (y * x + c).tmod p < p := by
        rw [Int.tmod_eq_emod_of_nonneg (by omega)]
        exact ⟨Int.emod_nonneg _ (by omega), Int.emod_lt_of_pos _ (by omega)⟩
      have w3 : IntKind.i64.wrap ((y * x + c).tmod p) = (y * x + c).tmod p := IntWalk.i64_in _ (by omega)
      have w4 : IntKind.i64.wrap (((k + 1 : Nat) : Int) - 1 - 1) = (k : Int) - 1 := by rw [show ((k + 1 : Nat) : Int) - 1 - 1 = (k : Int) - 1 by omega]; exact IntWalk.i64_in _ (by omega)
      have hn1 : (((k + 1 : Nat) : Int) - 1).toNat = k := by omega
      have hp0 : p ≠ 0 := by omega
      repeat' (first | simp (maxSteps := 9999999) only [↓GE, PL, PP, EE, QQ, seval, q, hs, hn1, w1, w2, w3, w4, hp0, eI, List.length_map] | (simp (disch := omega) only [IntWalk.i64_in]) | (refine go_brD (fun h => ?_) (fun h => ?_)) | (refine go_gsD (by ((try simp only [EE, QQ, seval]) <;> rfl)) (fun h => ?_) (fun h => ?_)) | (refine go_br (fun h => ?_) (fun h => ?_)) | (refine go_gs (by ((try simp only [EE, QQ, seval]) <;> rfl)) (fun h => ?_) (fun h => ?_)) | (with_reducible apply And.intro) | (with_reducible exact trivial) | omega | (simp only [List.length_map, List.length_cons, List.length_nil] at *; omega) | (show _ = true; first | rfl | kernel_rfl))
      refine ⟨⟨k, by omega⟩, ?_, by simp only; omega⟩
      (simp only [GeS]; refine ⟨?_, ?_, ?_, ?_⟩; all_goals (repeat' (first | (with_reducible exact True.intro) | (with_reducible rfl) | simp only [CC, LL, EE, QQ, seval, List.contains_nil, Bool.false_eq_true, ↓reduceIte, Option.some.injEq, O.arr.injEq, true_and, and_true] | (with_reducible apply And.intro) | (refine ⟨_, rfl, ?_⟩) | (simp [hP]; done) | rfl | omega | trivial)))
theorem lists5 {p : Int} (hp : okP p) (f : List Int) (hf : inF p f) (hl : f.length ≤ 512) : Does Try.prog 73 [.ag [I p], .d (dRows [f])] [] (I 0) [] [] := by
  refine go_ref05_lists rfl BxOK.nil fun cx hm0 => go_in 5000 ?_
  unfold ac_ref05_lists rs_ref05_lists
  repeat' (first | simp (maxSteps := 9999999) only [↓GE, PL, PP, EE, QQ, seval, List.length_map, List.length_cons, List.length_nil] | (simp (disch := omega) only [IntWalk.i64_in]) | (refine go_brD (fun h => ?_) (fun h => ?_)) | (refine go_gsD (by ((try simp only [EE, QQ, seval]) <;> rfl)) (fun h => ?_) (fun h => ?_)) | (refine go_br (fun h => ?_) (fun h => ?_)) | (refine go_gs (by ((try simp only [EE, QQ, seval]) <;> rfl)) (fun h => ?_) (fun h => ?_)) | (apply go_call 5000 (check3 hp) rfl rfl; iterate 4 (first | (exact CallForm.plain rfl) | ((try simp only [CC, LL, NM, EE, QQ, seval]) <;> (first | rfl | ((repeat constructor); done))))) | (with_reducible apply And.intro) | (with_reducible exact trivial) | omega | (simp only [List.length_map, List.length_cons, List.length_nil] at *; omega) | (show _ = true; first | rfl | kernel_rfl))
  refine go_loop 5000 hm0 (ι := {k : Nat // k ≤ 1}) (fun i => [(1, .d (dRows [f])), (2, .bp 2 0 0), (15, .d (dRows [f])), (16, I 1), (17, I i.1)]) (fun i => [(2, .box 0 [I p])]) (fun i => 1 - i.1) [] ⟨0, by omega⟩ ?_ ?_
  · (simp only [GeS]; refine ⟨?_, ?_, ?_, ?_⟩; all_goals (repeat' (first | (with_reducible exact True.intro) | (with_reducible rfl) | simp only [CC, LL, EE, QQ, seval, List.contains_nil, Bool.false_eq_true, ↓reduceIte, Option.some.injEq, O.arr.injEq, true_and, and_true] | (with_reducible apply And.intro) | (refine ⟨_, rfl, ?_⟩) | (simp; done) | rfl | omega | trivial)))
  rintro ⟨k, hk⟩
  simp only
  by_cases hk1 : k < 1
  · obtain rfl : k = 0 := by omega
    have e1 := in3 hp f (by omega) hf
    repeat' (first | simp (maxSteps := 9999999) only [↓GE, PL, PP, EE, QQ, seval, eR, List.length_map] | (simp (disch := omega) only [IntWalk.i64_in]) | (refine go_brD (fun h => ?_) (fun h => ?_)) | (refine go_gsD (by ((try simp only [EE, QQ, seval]) <;> rfl)) (fun h => ?_) (fun h => ?_)) | (refine go_br (fun h => ?_) (fun h => ?_)) | (refine go_gs (by ((try simp only [EE, QQ, seval]) <;> rfl)) (fun h => ?_) (fun h => ?_)) | (apply go_call 5000 (e1) rfl rfl; iterate 4 (first | (exact CallForm.plain rfl) | ((try simp only [CC, LL, NM, EE, QQ, seval]) <;> (first | rfl | ((repeat constructor); done))))) | (with_reducible apply And.intro) | (with_reducible exact trivial) | omega | (simp only [List.length_map, List.length_cons, List.length_nil] at *; omega) | (show _ = true; first | rfl | kernel_rfl))
    refine ⟨⟨1, by omega⟩, ?_, by simp only; omega⟩
    (simp only [GeS]; refine ⟨?_, ?_, ?_, ?_⟩; all_goals (repeat' (first | (with_reducible exact True.intro) | (with_reducible rfl) | simp only [CC, LL, EE, QQ, seval, List.contains_nil, Bool.false_eq_true, ↓reduceIte, Option.some.injEq, O.arr.injEq, true_and, and_true] | (with_reducible apply And.intro) | (refine ⟨_, rfl, ?_⟩) | (simp; done) | rfl | omega | trivial)))
  obtain rfl : k = 1 := by omega
  repeat' (first | simp (maxSteps := 9999999) only [↓GE, PL, PP, EE, QQ, seval, List.length_map, List.length_cons, List.length_nil] | (simp (disch := omega) only [IntWalk.i64_in]) | (refine go_brD (fun h => ?_) (fun h => ?_)) | (refine go_gsD (by ((try simp only [EE, QQ, seval]) <;> rfl)) (fun h => ?_) (fun h => ?_)) | (refine go_br (fun h => ?_) (fun h => ?_)) | (refine go_gs (by ((try simp only [EE, QQ, seval]) <;> rfl)) (fun h => ?_) (fun h => ?_)) | (with_reducible apply And.intro) | (with_reducible exact trivial) | omega | (simp only [List.length_map, List.length_cons, List.length_nil] at *; omega) | (show _ = true; first | rfl | kernel_rfl))
  refine go_loop 5000 hm0 (ι := {k : Nat // k ≤ 1}) (fun i => [(26, .d (dRows [f])), (27, I 1), (28, I i.1)]) (fun i => []) (fun i => 1 - i.1) [] ⟨0, by omega⟩ ?_ ?_
  · (simp only [GeS]; refine ⟨?_, ?_, ?_, ?_⟩; all_goals (repeat' (first | (with_reducible exact True.intro) | (with_reducible rfl) | simp only [CC, LL, EE, QQ, seval, List.contains_nil, Bool.false_eq_true, ↓reduceIte, Option.some.injEq, O.arr.injEq, true_and, and_true] | (with_reducible apply And.intro) | (refine ⟨_, rfl, ?_⟩) | (simp; done) | rfl | omega | trivial)))
  rintro ⟨k, hk⟩
  simp only
  by_cases hk1 : k < 1
  · obtain rfl : k = 0 := by omega
    have q : decide ((f.length : Int) > 512) = false := decide_eq_false (by omega)
    repeat' (first | simp (maxSteps := 9999999) only [↓GE, PL, PP, EE, QQ, seval, eR, q, List.length_map] | (simp (disch := omega) only [IntWalk.i64_in]) | (refine go_brD (fun h => ?_) (fun h => ?_)) | (refine go_gsD (by ((try simp only [EE, QQ, seval]) <;> rfl)) (fun h => ?_) (fun h => ?_)) | (refine go_br (fun h => ?_) (fun h => ?_)) | (refine go_gs (by ((try simp only [EE, QQ, seval]) <;> rfl)) (fun h => ?_) (fun h => ?_)) | (with_reducible apply And.intro) | (with_reducible exact trivial) | omega | (simp only [List.length_map, List.length_cons, List.length_nil] at *; omega) | (show _ = true; first | rfl | kernel_rfl))
    refine ⟨⟨1, by omega⟩, ?_, by simp only; omega⟩
    (simp only [GeS]; refine ⟨?_, ?_, ?_, ?_⟩; all_goals (repeat' (first | (with_reducible exact True.intro) | (with_reducible rfl) | simp only [CC, LL, EE, QQ, seval, List.contains_nil, Bool.false_eq_true, ↓reduceIte, Option.some.injEq, O.arr.injEq, true_and, and_true] | (with_reducible apply And.intro) | (refine ⟨_, rfl, ?_⟩) | (simp; done) | rfl | omega | trivial)))
  obtain rfl : k = 1 := by omega
  repeat' (first | simp (maxSteps := 9999999) only [↓GE, PL, PP, EE, QQ, seval] | (simp (disch := omega) only [IntWalk.i64_in]) | (refine go_brD (fun h => ?_) (fun h => ?_)) | (refine go_gsD (by ((try simp only [EE, QQ, seval]) <;> rfl)) (fun h => ?_) (fun h => ?_)) | (refine go_br (fun h => ?_) (fun h => ?_)) | (refine go_gs (by ((try simp only [EE, QQ, seval]) <;> rfl)) (fun h => ?_) (fun h => ?_)) | (with_reducible apply And.intro) | (with_reducible exact trivial) | omega | (simp only [List.length_map, List.length_cons, List.length_nil] at *; omega) | (show _ = true; first | rfl | kernel_rfl))
  all_goals ((first | apply ret_mk [] | apply end_mk []); (· ((try simp only [CC, LL, EE, QQ, seval]) <;> rfl)); (· ((try simp only [CC, LL, EE, QQ, seval]) <;> repeat' (first | (with_reducible apply And.intro) | rfl | trivial | (exact ⟨_, rfl⟩) | (exact ⟨_, _, _, rfl⟩) | (simp [*, ]; done) | (simp [*, ]; omega) | (simp_all []; done) | (simp_all []; omega)))); all_goals (first | trivial | decide | ((try simp only [CC, LL, EE, QQ, seval]) <;> repeat' (first | (with_reducible apply And.intro) | (exact ⟨_, rfl, rfl, rfl⟩) | (exact ⟨_, _, _, rfl⟩) | (exact ⟨_, rfl⟩) | trivial | rfl | (simp; done)))))
theorem Value5 {p : Int} (hp : okP p) (f : List Int) (x : Int) (hf : inF p f) (hx : 0 ≤ x ∧ x < p) (hl : f.length ≤ 512) : Does Try.prog 68 [.ag [I p], .d (dInts f), I x] [] (.tu [I (polyV p x f), I 0]) [] [] := by
  refine go_ref05_Value rfl BxOK.nil fun cx hm0 => go_in 5000 ?_
  unfold ac_ref05_Value rs_ref05_Value
  have e1 := in3 hp [x] (by simp) (fun y hy => by obtain rfl : y = x := (by simpa using hy); exact hx)
  have e2 := lists5 hp f hf hl
  have e3 := value5 hp f x hf hx hl
  repeat' (first | simp (maxSteps := 9999999) only [↓GE, PL, PP, EE, QQ, seval, eI, List.length_map] | (simp (disch := omega) only [IntWalk.i64_in]) | (refine go_brD (fun h => ?_) (fun h => ?_)) | (refine go_gsD (by ((try simp only [EE, QQ, seval]) <;> rfl)) (fun h => ?_) (fun h => ?_)) | (refine go_br (fun h => ?_) (fun h => ?_)) | (refine go_gs (by ((try simp only [EE, QQ, seval]) <;> rfl)) (fun h => ?_) (fun h => ?_)) | (apply go_call 5000 (e1) rfl rfl; iterate 4 (first | (exact CallForm.plain rfl) | ((try simp only [CC, LL, NM, EE, QQ, seval]) <;> (first | rfl | ((repeat constructor); done))))) | (apply go_call 5000 (e2) rfl rfl; iterate 4 (first | (exact CallForm.plain rfl) | ((try simp only [CC, LL, NM, EE, QQ, seval]) <;> (first | rfl | ((repeat constructor); done))))) | (apply go_call 5000 (e3) rfl rfl; iterate 4 (first | (exact CallForm.plain rfl) | ((try simp only [CC, LL, NM, EE, QQ, seval]) <;> (first | rfl | ((repeat constructor); done))))) | (with_reducible apply And.intro) | (with_reducible exact trivial) | omega | (simp only [List.length_map, List.length_cons, List.length_nil] at *; omega) | (show _ = true; first | rfl | kernel_rfl))
  all_goals ((first | apply ret_mk [] | apply end_mk []); (· ((try simp only [CC, LL, EE, QQ, seval]) <;> rfl)); (· ((try simp only [CC, LL, EE, QQ, seval]) <;> repeat' (first | (with_reducible apply And.intro) | rfl | trivial | (exact ⟨_, rfl⟩) | (exact ⟨_, _, _, rfl⟩) | (simp [*, ]; done) | (simp [*, ]; omega) | (simp_all []; done) | (simp_all []; omega)))); all_goals (first | trivial | decide | ((try simp only [CC, LL, EE, QQ, seval]) <;> repeat' (first | (with_reducible apply And.intro) | (exact ⟨_, rfl, rfl, rfl⟩) | (exact ⟨_, _, _, rfl⟩) | (exact ⟨_, rfl⟩) | trivial | rfl | (simp; done)))))
def eSh (s : Int × Int) : List D := [.at (.int .i64 s.1), .at (.int .i64 s.2)]
abbrev dShares (l : List (Int × Int)) : D := .sl 2 (l.map eSh)
/-- The first n shares. -/
def sharesG (p : Int) (f : List Int) : Nat → List (Int × Int)
  | 0 => []
  | n + 1 => sharesG p f n ++ [(((n + 1 : Nat) : Int), polyV p ((n + 1 : Nat) : Int) f)]
theorem sharesG_len {p : Int} {f : List Int} : ∀ {n : Nat}, (sharesG p f n).length = n
  | 0 => rfl
  | n + 1 => by rw [sharesG]; simp [sharesG_len]
theorem split7 {p : Int} (hp : okP p) (e : Int) (he : 0 ≤ e ∧ e < p) (th cnt : Nat) (hth : th ≤ 9) (hc1 : 1 ≤ cnt) (hc2 : (cnt : Int) ≤ 6) (t : List Int) (a : Nat) (ht : t.length ≤ 16384) (ha : a + th ≤ t.length) (hin : inF p t) :
    Does Try.prog 67 [.ag [I p], I e, I th, I cnt, vTape t a] [] (.tu [.d (dShares (sharesG p (e :: (t.drop a).take th) cnt)), vTape t ((a + th : Nat) : Int), I 0]) [] [] := by
  refine go_ref07_Split rfl BxOK.nil fun cx hm0 => go_in 5000 ?_
  unfold ac_ref07_Split rs_ref07_Split
  have hpl := hp.le
  have e1 := in3 hp [e] (by simp) (fun y hy => by obtain rfl : y = e := (by simpa using hy); exact he)
  have e2 := draws2 (p := p) (by omega) (by omega) t a th ht ha hin
  have q1 : decide ((th : Int) < 0) = false := decide_eq_false (by omega)
  have q2 : decide ((th : Int) > 9) = false := decide_eq_false (by omega)
  have q3 : decide ((cnt : Int) < 1) = false := decide_eq_false (by omega)
  have w1 : IntKind.i64.wrap (p - 1) = p - 1 := IntWalk.i64_in _ (by omega)
  have q4 : decide ((cnt : Int) > p - 1) = false := decide_eq_false (by omega)
  have q5 : decide ((cnt : Int) > 512) = false := decide_eq_false (by omega)
  have hdl : ((t.drop a).take th).length = th := by rw [List.length_take, List.length_drop]; omega
  have hF : inF p (e :: (t.drop a).take th) := fun y hy => by
    rcases List.mem_cons.1 hy with rfl | hy
    · exact he
    · exact hin y (List.mem_of_mem_drop (List.mem_of_mem_take hy))
  generalize (t.drop a).take th = dr at *
  repeat' (first | simp (maxSteps := 9999999) only [↓GE, PL, PP, EE, QQ, seval, q1, q2, q3, q4, q5, w1, hdl, eI, List.length_map] | (simp (disch := omega) only [IntWalk.i64_in]) | (refine go_brD (fun h => ?_) (fun h => ?_)) | (refine go_gsD (by ((try simp only [EE, QQ, seval]) <;> rfl)) (fun h => ?_) (fun h => ?_)) | (refine go_br (fun h => ?_) (fun h => ?_)) | (refine go_gs (by ((try simp only [EE, QQ, seval]) <;> rfl)) (fun h => ?_) (fun h => ?_)) | (apply go_call 5000 (e1) rfl rfl; iterate 4 (first | (exact CallForm.plain rfl) | ((try simp only [CC, LL, NM, EE, QQ, seval]) <;> (first | rfl | ((repeat constructor); done))))) | (apply go_call 5000 (e2) rfl rfl; iterate 4 (first | (exact CallForm.plain rfl) | ((try simp only [CC, LL, NM, EE, QQ, seval]) <;> (first | rfl | ((repeat constructor); done))))) | (with_reducible apply And.intro) | (with_reducible exact trivial) | omega | (simp only [List.length_map, List.length_cons, List.length_nil] at *; omega) | (show _ = true; first | rfl | kernel_rfl))
  refine go_loopz 5000 hm0 (ι := {q : Nat × Nat // q.1 ≤ cnt}) (fun i => [(3, I cnt), (5, .bp 5 0 0), (9, .bp 9 0 0), (11, .bp 11 0 0), (15, .d (dInts (e :: dr))), (16, .og 82 i.1.2), (17, I ((i.1.1 + 1 : Nat) : Int))]) (fun i => [(5, .box 0 [I p]), (9, .box 0 [.d (dInts t), I ((a + th : Nat) : Int)]), (11, .box 0 [.nl 1, I 0]), (82, .arr i.1.2 2 true ((sharesG p (e :: dr) i.1.1).map eSh))]) (fun i => cnt - i.1.1) [.og 62 1] [82] ⟨(0, 0), Nat.zero_le _⟩ ?_ ?_
  · simp only [GeZ]; (simp only [GeS]; refine ⟨?_, ?_, ?_, ?_⟩; all_goals (repeat' (first | (with_reducible exact True.intro) | (with_reducible rfl) | simp only [CC, LL, EE, QQ, seval, List.contains_nil, Bool.false_eq_true, ↓reduceIte, Option.some.injEq, O.arr.injEq, true_and, and_true] | (with_reducible apply And.intro) | (refine ⟨_, rfl, ?_⟩) | (simp [sharesG, eI]; done) | rfl | omega | trivial)))
  · rintro ⟨⟨k, v⟩, hk⟩
    simp only at hk
    have hlen := sharesG_len (p := p) (f := e :: dr) (n := k)
    by_cases hkc : k < cnt
    · have q6 : decide (((k + 1 : Nat) : Int) ≤ (cnt : Int)) = true := decide_eq_true (by omega)
      have e3 := Value5 hp (e :: dr) ((k + 1 : Nat) : Int) hF (by omega) (by simp only [List.length_cons]; omega)
      have hN : sharesG p (e :: dr) (k + 1) = sharesG p (e :: dr) k ++ [(((k + 1 : Nat) : Int), polyV p ((k + 1 : Nat) : Int) (e :: dr))] := rfl
      have hv := polyV_in hp (x := ((k + 1 : Nat) : Int)) (by omega) hF
      generalize polyV p ((k + 1 : Nat) : Int) (e :: dr) = y at *
      have w2 : IntKind.i64.wrap (((k + 1 : Nat) : Int) + 1) = ((k + 1 + 1 : Nat) : Int) := by rw [show ((k + 1 : Nat) : Int) + 1 = ((k + 1 + 1 : Nat) : Int) by omega]; exact IntWalk.i64_in _ (by omega)
      repeat' (first | simp (maxSteps := 9999999) only [↓GE, PL, PP, EE, QQ, seval, q6, w2, hlen, List.length_map] | (simp (disch := omega) only [IntWalk.i64_in]) | (refine go_brD (fun h => ?_) (fun h => ?_)) | (refine go_gsD (by ((try simp only [EE, QQ, seval]) <;> rfl)) (fun h => ?_) (fun h => ?_)) | (refine go_br (fun h => ?_) (fun h => ?_)) | (refine go_gs (by ((try simp only [EE, QQ, seval]) <;> rfl)) (fun h => ?_) (fun h => ?_)) | (apply go_call 5000 (e3) rfl rfl; iterate 4 (first | (exact CallForm.plain rfl) | ((try simp only [CC, LL, NM, EE, QQ, seval]) <;> (first | rfl | ((repeat constructor); done))))) | (with_reducible apply And.intro) | (with_reducible exact trivial) | omega | (simp only [List.length_map, List.length_cons, List.length_nil] at *; omega) | (show _ = true; first | rfl | kernel_rfl))
      refine ⟨[], [], ⟨(k + 1, v + 1), hkc⟩, ?_, by simp only; omega⟩
      simp only [GeZ]; (simp only [GeS]; refine ⟨?_, ?_, ?_, ?_⟩; all_goals (repeat' (first | (with_reducible exact True.intro) | (with_reducible rfl) | simp only [CC, LL, EE, QQ, seval, List.contains_nil, Bool.false_eq_true, ↓reduceIte, Option.some.injEq, O.arr.injEq, true_and, and_true] | (with_reducible apply And.intro) | (refine ⟨_, rfl, ?_⟩) | (simp [hN, eSh]; done) | rfl | omega | trivial)))
    · obtain rfl : k = cnt := by omega
      have q6 : decide (((k + 1 : Nat) : Int) ≤ (k : Int)) = false := decide_eq_false (by omega)
      repeat' (first | simp (maxSteps := 9999999) only [↓GE, PL, PP, EE, QQ, seval, q6] | (simp (disch := omega) only [IntWalk.i64_in]) | (refine go_brD (fun h => ?_) (fun h => ?_)) | (refine go_gsD (by ((try simp only [EE, QQ, seval]) <;> rfl)) (fun h => ?_) (fun h => ?_)) | (refine go_br (fun h => ?_) (fun h => ?_)) | (refine go_gs (by ((try simp only [EE, QQ, seval]) <;> rfl)) (fun h => ?_) (fun h => ?_)) | (with_reducible apply And.intro) | (with_reducible exact trivial) | omega | (simp only [List.length_map, List.length_cons, List.length_nil] at *; omega) | (show _ = true; first | rfl | kernel_rfl))
      all_goals ((first | apply ret_mk [] | apply end_mk []); (· ((try simp only [CC, LL, EE, QQ, seval]) <;> rfl)); (· ((try simp only [CC, LL, EE, QQ, seval]) <;> repeat' (first | (with_reducible apply And.intro) | rfl | trivial | (exact ⟨_, rfl⟩) | (exact ⟨_, _, _, rfl⟩) | (simp [*, ]; done) | (simp [*, ]; omega) | (simp_all []; done) | (simp_all []; omega)))); all_goals (first | trivial | decide | ((try simp only [CC, LL, EE, QQ, seval]) <;> repeat' (first | (with_reducible apply And.intro) | (exact ⟨_, rfl, rfl, rfl⟩) | (exact ⟨_, _, _, rfl⟩) | (exact ⟨_, rfl⟩) | trivial | rfl | (simp; done)))))
end Go.Proofs.Ytihjmnhjjpdenaa.Sim
