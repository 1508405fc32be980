/- Lists added to rests of lists; polynomials trimmed and multiplied. -/
import Derived.Test.YthbhkkdaaipngaaGreatDoorMTpV
namespace Go.Proofs.YthbhkkdaaipngaaGreatDoor.Sim
open Go Go.RowKit Go.Deep
set_option maxRecDepth 100000
set_option maxHeartbeats 4000000
set_option linter.unusedVariables false
set_option linter.unusedSimpArgs false
attribute [local irreducible] Go Mean
/-- A list times a number is added to another one, from place e on: k elements. -/
def addAt (p x : Int) (L r : List Int) (e k : Nat) : List Int := (List.range L.length).map fun i => if e ≤ i ∧ i < e + k then (L.getD i 0 + x * r.getD (i - e) 0 % p) % p else L.getD i 0
theorem addAt_len {p x : Int} {L r : List Int} {e k : Nat} : (addAt p x L r e k).length = L.length := by simp [addAt]
theorem addAt_get {p x : Int} {L r : List Int} {e k i : Nat} (h : i < L.length) : (addAt p x L r e k).getD i 0 = if e ≤ i ∧ i < e + k then (L.getD i 0 + x * r.getD (i - e) 0 % p) % p else L.getD i 0 := by
  simp [addAt, List.getD_eq_getElem?_getD, h]
theorem addAt_next {p x : Int} {L r : List Int} {e k : Nat} (h : e + k < L.length) : (addAt p x L r e k).set (e + k) ((L.getD (e + k) 0 + x * r.getD k 0 % p) % p) = addAt p x L r e (k + 1) := by
  apply List.ext_getElem (by simp [addAt])
  intro i h1 h2
  simp only [addAt, List.getElem_set, List.getElem_map, List.getElem_range]
  by_cases e1 : e + k = i
  · subst e1
    rw [if_pos rfl, if_pos (by omega), Nat.add_sub_cancel_left]
  · rw [if_neg e1]
    by_cases h3 : e ≤ i ∧ i < e + k
    · rw [if_pos h3, if_pos (by omega)]
    · rw [if_neg h3, if_neg (by omega)]
theorem addAt_zero {p x : Int} {L r : List Int} {e : Nat} : addAt p x L r e 0 = L := by
  apply List.ext_getElem (by simp [addAt])
  intro i h1 h2
  simp only [addAt, List.getElem_map, List.getElem_range]
  rw [if_neg (by omega)]
  simp [List.getD_eq_getElem?_getD, h2]
theorem addAt_in {p x : Int} {L r : List Int} {e k : Nat} (hp : 1 ≤ p) (hL : L.all (inE p) = true) : (addAt p x L r e k).all (inE p) = true := by
  rw [List.all_eq_true] at hL ⊢
  intro y hy
  simp only [addAt, List.mem_map, List.mem_range] at hy
  obtain ⟨i, hi, rfl⟩ := hy
  split
  · exact inE_yes ⟨Int.emod_nonneg _ (by omega), Int.emod_lt_of_pos _ (by omega)⟩
  · exact hL _ (mem_getD _ _ _ hi)
theorem inE_iff {p x : Int} : inE p x = true ↔ 0 ≤ x ∧ x < p := by simp [inE]
theorem all_get {p : Int} {l : List Int} (h : l.all (inE p) = true) {i : Nat} (hi : i < l.length) : 0 ≤ l.getD i 0 ∧ l.getD i 0 < p := inE_iff.1 (List.all_eq_true.1 h _ (mem_getD _ _ _ hi))
theorem addTimesT (p x : Int) (L r : List Int) (e : Nat) (hp : 1 ≤ p) (hp2 : p ≤ 65521) (hx : 0 ≤ x ∧ x < p) (hL : L.all (inE p) = true) (hr : r.all (inE p) = true) (hl : e + r.length ≤ L.length) (hb : L.length ≤ 1000000) : Does Tryz.prog 47 [I p, .ot 900000 0 e, I x, .d (dInts r)] [(900000, .arr 0 1 true (L.map eI))] (.tu []) [(900000, .arr 0 1 true ((addAt p x L r e r.length).map eI))] [] := by
  refine go_residue_Field_AddTimes rfl ⟨rfl, by simp⟩ fun cx hm0 => go_in 5000 ?_
  unfold ac_residue_Field_AddTimes rs_residue_Field_AddTimes
  repeat' (first | simp (maxSteps := 9999999) only [↓GE, PL, PP, EE, QQ, seval, List.length_map] | (simp (disch := omega) only [IntWalk.i64_in]) | (refine go_brD (fun h => ?_) (fun h => ?_)) | (refine go_gsD aE (fun h => ?_) (fun h => ?_)) | (refine go_br (fun h => ?_) (fun h => ?_)) | (refine go_gs aE (fun h => ?_) (fun h => ?_)) | (with_reducible apply And.intro) | exact aG | fail)
  refine go_loop 5000 hm0 (ι := {k : Nat // k ≤ r.length}) (fun i => [(0, I p), (1, .ot 900000 0 e), (2, I x), (10, .d (dInts r)), (11, I r.length), (12, I i.1)]) (fun i => [(900000, .arr 0 1 true ((addAt p x L r e i.1).map eI))]) (fun i => r.length - i.1) [] ⟨0, Nat.zero_le _⟩ ?_ ?_
  · (simp only [GeS]; refine ⟨?_, ?_, ?_, ?_⟩; all_goals (repeat' (first | (with_reducible exact True.intro) | (with_reducible rfl) | simp only [XC, ↓reduceIte, seval] | (with_reducible apply And.intro) | (refine ⟨_, rfl, ?_⟩) | (simp [addAt_zero]; done) | exact aS | fail)))
  · rintro ⟨k, hk⟩
    simp only
    by_cases hkr : k < r.length
    · have hs1 := getD_map eI [] 0 r k hkr
      have hs2 := getD_map eI [] 0 (addAt p x L r e k) (e + k) (by rw [addAt_len]; omega)
      rw [addAt_get (by omega), if_neg (by omega)] at hs2
      have hn := addAt_next (p := p) (x := x) (r := r) (show e + k < L.length by omega)
      have h1 := all_get hL (i := e + k) (by omega)
      have h2 := all_get hr hkr
      have qk : e + k < (addAt p x L r e k).length := by rw [addAt_len]; omega
      generalize L.getD (e + k) 0 = a at *
      generalize r.getD k 0 = b at *
      have e1 := fmul p x b hp hp2 hx h2
      have e2 := fadd p a (x * b % p) hp hp2 h1 ⟨Int.emod_nonneg _ (by omega), Int.emod_lt_of_pos _ (by omega)⟩
      repeat' (first | simp (maxSteps := 9999999) only [↓GE, PL, PP, EE, QQ, seval, hs1, hs2, qk, eI, List.length_map] | (simp (disch := omega) only [IntWalk.i64_in]) | (refine go_brD (fun h => ?_) (fun h => ?_)) | (refine go_gsD aE (fun h => ?_) (fun h => ?_)) | (refine go_br (fun h => ?_) (fun h => ?_)) | (refine go_gs aE (fun h => ?_) (fun h => ?_)) | (apply go_call 5000 (e1) rfl rfl; iterate 4 (first | (exact CallForm.plain rfl) | exact aC)) | (apply go_call 5000 (e2) rfl rfl; iterate 4 (first | (exact CallForm.plain rfl) | exact aC)) | (with_reducible apply And.intro) | exact aG | fail)
      refine ⟨⟨k + 1, hkr⟩, ?_, by simp only; omega⟩
      (simp only [GeS]; refine ⟨?_, ?_, ?_, ?_⟩; all_goals (repeat' (first | (with_reducible exact True.intro) | (with_reducible rfl) | simp only [XC, ↓reduceIte, seval] | (with_reducible apply And.intro) | (refine ⟨_, rfl, ?_⟩) | (simp [← hn, List.map_set, eI]; done) | exact aS | fail)))
    · obtain rfl : k = r.length := by omega
      repeat' (first | simp (maxSteps := 9999999) only [↓GE, PL, PP, EE, QQ, seval] | (simp (disch := omega) only [IntWalk.i64_in]) | (refine go_brD (fun h => ?_) (fun h => ?_)) | (refine go_gsD aE (fun h => ?_) (fun h => ?_)) | (refine go_br (fun h => ?_) (fun h => ?_)) | (refine go_gs aE (fun h => ?_) (fun h => ?_)) | (with_reducible apply And.intro) | exact aG | fail)
      all_goals ((first | apply ret_mk [] | apply end_mk []); (· exact aR); (· exact aZ); all_goals exact aF)
/-- How many coefficients are left. -/
def trimN (l : List Int) : Nat → Nat
  | 0 => 0
  | n + 1 => if l.getD n 0 = 0 then trimN l n else n + 1
def trimF (l : List Int) : List Int := l.take (trimN l l.length)
theorem trimN_le (l : List Int) : ∀ n, trimN l n ≤ n
  | 0 => Nat.le_refl _
  | n + 1 => by rw [trimN]; split; have := trimN_le l n; omega; omega
theorem trimF_len (l : List Int) : (trimF l).length = trimN l l.length := by
  have := trimN_le l l.length
  rw [trimF, List.length_take]; omega
theorem trimD (l : List Int) (hl : l.length ≤ 1000000) : Does Tryz.prog 96 [.d (dInts l)] [] (.d (dInts (trimF l))) [] [] := by
  refine go_residue_Trim rfl BxOK.nil fun cx hm0 => go_in 5000 ?_
  unfold ac_residue_Trim rs_residue_Trim
  repeat' (first | simp (maxSteps := 9999999) only [↓GE, PL, PP, EE, QQ, seval, List.length_map] | (simp (disch := omega) only [IntWalk.i64_in]) | (refine go_brD (fun h => ?_) (fun h => ?_)) | (refine go_gsD aE (fun h => ?_) (fun h => ?_)) | (refine go_br (fun h => ?_) (fun h => ?_)) | (refine go_gs aE (fun h => ?_) (fun h => ?_)) | (with_reducible apply And.intro) | exact aG | fail)
  refine go_loop 5000 hm0 (ι := {k : Nat // k ≤ l.length ∧ trimN l l.length = trimN l k}) (fun i => [(0, .d (dInts l)), (2, .nl 1), (3, I i.1)]) (fun i => []) (fun i => i.1) [] ⟨l.length, Nat.le_refl _, rfl⟩ ?_ ?_
  · exact aH
  · rintro ⟨k, hk, hv⟩
    simp only
    cases k with
    | zero =>
      have q : decide (((0 : Nat) : Int) > 0) = false := rfl
      repeat' (first | simp (maxSteps := 9999999) only [↓GE, PL, PP, EE, QQ, seval, q, List.length_map] | (simp (disch := omega) only [IntWalk.i64_in]) | (refine go_brD (fun h => ?_) (fun h => ?_)) | (refine go_gsD aE (fun h => ?_) (fun h => ?_)) | (refine go_br (fun h => ?_) (fun h => ?_)) | (refine go_gs aE (fun h => ?_) (fun h => ?_)) | (with_reducible apply And.intro) | exact aG | fail)
      simp only [trimN] at hv
      ((first | apply ret_mk [] | apply end_mk []); (· exact aR); (· ((try simp only [CC, LL, EE, QQ, seval]) <;> repeat' (first | exact aD | (with_reducible apply And.intro) | (simp [*, trimF, hv]; done) | (simp [*, trimF, hv]; omega) | (simp_all [trimF, hv]; done) | (simp_all [trimF, hv]; omega)))); all_goals (first | ((try simp only [CC, LL, EE, QQ, seval]) <;> (repeat' (first | (with_reducible apply And.intro) | trivial | rfl | (simp [trimF, hv]; done))); done) | exact aF))
    | succ k =>
      have hs := getD_map eI [] 0 l k hk
      have q : decide (((k + 1 : Nat) : Int) > 0) = true := decide_eq_true (by omega)
      have w : IntKind.i64.wrap (((k + 1 : Nat) : Int) - 1) = (k : Int) := by rw [IntWalk.i64_in _ (by omega)]; omega
      rw [trimN] at hv
      by_cases h0 : l.getD k 0 = 0
      · rw [if_pos h0] at hv
        have q2 : (l.getD k 0 == 0) = true := by simpa using h0
        repeat' (first | simp (maxSteps := 9999999) only [↓GE, PL, PP, EE, QQ, seval, q, w, hs, q2, eI, List.length_map] | (simp (disch := omega) only [IntWalk.i64_in]) | (refine go_brD (fun h => ?_) (fun h => ?_)) | (refine go_gsD aE (fun h => ?_) (fun h => ?_)) | (refine go_br (fun h => ?_) (fun h => ?_)) | (refine go_gs aE (fun h => ?_) (fun h => ?_)) | (with_reducible apply And.intro) | exact aG | fail)
        refine ⟨⟨k, by omega, hv⟩, ?_, by simp only; omega⟩
        exact aH
      · rw [if_neg h0] at hv
        have q2 : (l.getD k 0 == 0) = false := by simpa using h0
        repeat' (first | simp (maxSteps := 9999999) only [↓GE, PL, PP, EE, QQ, seval, q, w, hs, q2, eI, List.length_map] | (simp (disch := omega) only [IntWalk.i64_in]) | (refine go_brD (fun h => ?_) (fun h => ?_)) | (refine go_gsD aE (fun h => ?_) (fun h => ?_)) | (refine go_br (fun h => ?_) (fun h => ?_)) | (refine go_gs aE (fun h => ?_) (fun h => ?_)) | (with_reducible apply And.intro) | exact aG | fail)
        ((first | apply ret_mk [] | apply end_mk []); (· exact aR); (· ((try simp only [CC, LL, EE, QQ, seval]) <;> repeat' (first | exact aD | (with_reducible apply And.intro) | (simp [*, trimF, hv, List.map_take]; done) | (simp [*, trimF, hv, List.map_take]; omega) | (simp_all [trimF, hv, List.map_take]; done) | (simp_all [trimF, hv, List.map_take]; omega)))); all_goals (first | ((try simp only [CC, LL, EE, QQ, seval]) <;> (repeat' (first | (with_reducible apply And.intro) | trivial | rfl | (simp [trimF, hv, List.map_take]; done))); done) | exact aF))
theorem trimO (l : List Int) (hl : l.length ≤ 1000000) : Does Tryz.prog 96 [.og 900000 0] [(900000, .arr 0 1 true (l.map eI))] (.og 900000 1) [(900000, .arr 1 1 true ((trimF l).map eI))] [] := by
  refine go_residue_Trim rfl ⟨rfl, by simp⟩ fun cx hm0 => go_in 5000 ?_
  unfold ac_residue_Trim rs_residue_Trim
  repeat' (first | simp (maxSteps := 9999999) only [↓GE, PL, PP, EE, QQ, seval, List.length_map] | (simp (disch := omega) only [IntWalk.i64_in]) | (refine go_brD (fun h => ?_) (fun h => ?_)) | (refine go_gsD aE (fun h => ?_) (fun h => ?_)) | (refine go_br (fun h => ?_) (fun h => ?_)) | (refine go_gs aE (fun h => ?_) (fun h => ?_)) | (with_reducible apply And.intro) | exact aG | fail)
  refine go_loop 5000 hm0 (ι := {k : Nat // k ≤ l.length ∧ trimN l l.length = trimN l k}) (fun i => [(0, .og 900000 0), (2, .nl 1), (3, I i.1)]) (fun i => [(900000, .arr 0 1 true (l.map eI))]) (fun i => i.1) [] ⟨l.length, Nat.le_refl _, rfl⟩ ?_ ?_
  · exact aH
  · rintro ⟨k, hk, hv⟩
    simp only
    cases k with
    | zero =>
      have q : decide (((0 : Nat) : Int) > 0) = false := rfl
      simp only [trimN] at hv
      have ht : trimF l = [] := by rw [trimF, hv]; rfl
      rw [ht]
      repeat' (first | simp (maxSteps := 9999999) only [↓GE, PL, PP, EE, QQ, seval, q, List.length_map] | (simp (disch := omega) only [IntWalk.i64_in]) | (refine go_brD (fun h => ?_) (fun h => ?_)) | (refine go_gsD aE (fun h => ?_) (fun h => ?_)) | (refine go_br (fun h => ?_) (fun h => ?_)) | (refine go_gs aE (fun h => ?_) (fun h => ?_)) | (with_reducible apply And.intro) | exact aG | fail)
      ((first | apply ret_mk [] | apply end_mk []); (· exact aR); (· exact aZ); all_goals exact aF)
    | succ k =>
      have hs := getD_map eI [] 0 l k hk
      have q : decide (((k + 1 : Nat) : Int) > 0) = true := decide_eq_true (by omega)
      have w : IntKind.i64.wrap (((k + 1 : Nat) : Int) - 1) = (k : Int) := by rw [IntWalk.i64_in _ (by omega)]; omega
      rw [trimN] at hv
      have qk : k < l.length := hk
      by_cases h0 : l.getD k 0 = 0
      · rw [if_pos h0] at hv
        have q2 : (l.getD k 0 == 0) = true := by simpa using h0
        repeat' (first | simp (maxSteps := 9999999) only [↓GE, PL, PP, EE, QQ, seval, q, w, hs, q2, qk, eI, List.length_map] | (simp (disch := omega) only [IntWalk.i64_in]) | (refine go_brD (fun h => ?_) (fun h => ?_)) | (refine go_gsD aE (fun h => ?_) (fun h => ?_)) | (refine go_br (fun h => ?_) (fun h => ?_)) | (refine go_gs aE (fun h => ?_) (fun h => ?_)) | (with_reducible apply And.intro) | exact aG | fail)
        refine ⟨⟨k, by omega, hv⟩, ?_, by simp only; omega⟩
        exact aH
      · rw [if_neg h0] at hv
        have ht : (trimF l).map eI = (l.map eI).take (k + 1) := by rw [trimF, hv, List.map_take]
        rw [ht]
        have q2 : (l.getD k 0 == 0) = false := by simpa using h0
        repeat' (first | simp (maxSteps := 9999999) only [↓GE, PL, PP, EE, QQ, seval, q, w, hs, q2, qk, eI, List.length_map] | (simp (disch := omega) only [IntWalk.i64_in]) | (refine go_brD (fun h => ?_) (fun h => ?_)) | (refine go_gsD aE (fun h => ?_) (fun h => ?_)) | (refine go_br (fun h => ?_) (fun h => ?_)) | (refine go_gs aE (fun h => ?_) (fun h => ?_)) | (with_reducible apply And.intro) | exact aG | fail)
        ((first | apply ret_mk [] | apply end_mk []); (· exact aR); (· exact aZ); all_goals exact aF)
/-- A trimmed copy. -/
theorem ownP (l : List Int) (hl : l.length ≤ 1000000) : Does Tryz.prog 95 [.d (dInts l)] [] (.og 1000000 0) [] [.arr 0 1 true ((trimF l).map eI)] := by
  refine go_poly_own rfl BxOK.nil fun cx hm0 => go_in 5000 ?_
  unfold ac_poly_own rs_poly_own
  have e1 := trimD l hl
  have := trimN_le l l.length
  have q := trimF_len l
  repeat' (first | simp (maxSteps := 9999999) only [↓GE, PL, PP, EE, QQ, seval, List.length_map] | (simp (disch := omega) only [IntWalk.i64_in]) | (refine go_brD (fun h => ?_) (fun h => ?_)) | (refine go_gsD aE (fun h => ?_) (fun h => ?_)) | (refine go_br (fun h => ?_) (fun h => ?_)) | (refine go_gs aE (fun h => ?_) (fun h => ?_)) | (apply go_call 5000 (e1) rfl rfl; iterate 4 (first | (exact CallForm.plain rfl) | exact aC)) | (with_reducible apply And.intro) | exact aG | fail)
  ((first | apply ret_mk [some 5] | apply end_mk [some 5]); (· exact aR); (· exact aZ); all_goals exact aF)
/-- The product, so far. -/
def timesN (p : Int) (a b : List Int) : Nat → List Int
  | 0 => List.replicate (a.length + b.length - 1) 0
  | n + 1 => addAt p (a.getD n 0) (timesN p a b n) b n b.length
def timesF (p : Int) (a b : List Int) : List Int := timesN p a b a.length
theorem timesN_len {p : Int} {a b : List Int} : ∀ {n : Nat}, (timesN p a b n).length = a.length + b.length - 1
  | 0 => by simp [timesN]
  | n + 1 => by rw [timesN, addAt_len, timesN_len]
theorem zeros_in {p : Int} (hp : 1 ≤ p) {n : Nat} : (List.replicate n (0 : Int)).all (inE p) = true := by
  rw [List.all_eq_true]
  intro x hx
  obtain ⟨_, rfl⟩ := List.mem_replicate.1 hx
  exact inE_yes ⟨Int.le_refl _, by omega⟩
theorem timesN_in {p : Int} (hp : 1 ≤ p) {a b : List Int} : ∀ {n : Nat}, (timesN p a b n).all (inE p) = true
  | 0 => zeros_in hp
  | n + 1 => addAt_in hp (timesN_in hp)
theorem zeros_map (w : Nat) : (List.replicate w (0 : Int)).map eI = List.replicate w [D.at (.int .i64 0)] := by rw [List.map_replicate]; rfl
theorem times0 {p : Int} {a b : List Int} : (timesN p a b 0).map eI = List.replicate (a.length + b.length - 1) [D.at (.int .i64 0)] := zeros_map _
theorem times (p : Int) (a b : List Int) (hp : 1 ≤ p) (hp2 : p ≤ 65521) (ha : a.all (inE p) = true) (hb : b.all (inE p) = true) (ha1 : 1 ≤ a.length) (hb1 : 1 ≤ b.length) (ha2 : a.length ≤ 10000) (hb2 : b.length ≤ 10000) : Does Tryz.prog 100 [I p, .d (dInts a), .d (dInts b)] [] (.og 1000000 0) [] [.arr 0 1 true ((timesF p a b).map eI)] := by
  refine go_poly_times rfl BxOK.nil fun cx hm0 => go_in 5000 ?_
  unfold ac_poly_times rs_poly_times
  have w : IntKind.i64.wrap ((a.length : Int) + b.length) = (a.length : Int) + b.length := IntWalk.i64_in _ (by omega)
  have w2 : IntKind.i64.wrap ((a.length : Int) + b.length - 1) = ((a.length + b.length - 1 : Nat) : Int) := by rw [IntWalk.i64_in _ (by omega)]; omega
  repeat' (first | simp (maxSteps := 9999999) only [↓GE, PL, PP, EE, QQ, seval, w, w2, List.length_map] | (simp (disch := omega) only [IntWalk.i64_in]) | (refine go_brD (fun h => ?_) (fun h => ?_)) | (refine go_gsD aE (fun h => ?_) (fun h => ?_)) | (refine go_br (fun h => ?_) (fun h => ?_)) | (refine go_gs aE (fun h => ?_) (fun h => ?_)) | (with_reducible apply And.intro) | exact aG | fail)
  refine go_loop 5000 hm0 (ι := {k : Nat // k ≤ a.length}) (fun i => [(0, I p), (2, .d (dInts b)), (7, .og 16 0), (17, .d (dInts a)), (18, I a.length), (19, I i.1)]) (fun i => [(16, .arr 0 1 true ((timesN p a b i.1).map eI))]) (fun i => a.length - i.1) [] ⟨0, Nat.zero_le _⟩ ?_ ?_
  · (simp only [GeS]; refine ⟨?_, ?_, ?_, ?_⟩; all_goals (repeat' (first | (with_reducible exact True.intro) | (with_reducible rfl) | simp only [XC, ↓reduceIte, seval] | (with_reducible apply And.intro) | (refine ⟨_, rfl, ?_⟩) | (simp [times0]; done) | exact aS | fail)))
  · rintro ⟨k, hk⟩
    simp only
    by_cases hkr : k < a.length
    · have hs := getD_map eI [] 0 a k hkr
      have hx := all_get ha hkr
      have hl := timesN_len (p := p) (a := a) (b := b) (n := k)
      have e3 := (addTimesT p (a.getD k 0) (timesN p a b k) b k hp hp2 hx (timesN_in hp) hb (by omega) (by omega)).nm [(900000, 16, 0)] rfl rfl rfl rfl rfl rfl rfl rfl rfl
      have hN : addAt p (a.getD k 0) (timesN p a b k) b k b.length = timesN p a b (k + 1) := rfl
      rw [hN] at e3
      have qk : k < (timesN p a b k).length := by omega
      generalize a.getD k 0 = x at *
      repeat' (first | simp (maxSteps := 9999999) only [↓GE, PL, PP, EE, QQ, seval, hs, qk, eI, List.length_map] | (simp (disch := omega) only [IntWalk.i64_in]) | (refine go_brD (fun h => ?_) (fun h => ?_)) | (refine go_gsD aE (fun h => ?_) (fun h => ?_)) | (refine go_br (fun h => ?_) (fun h => ?_)) | (refine go_gs aE (fun h => ?_) (fun h => ?_)) | (apply go_call 5000 (e3) rfl rfl; iterate 4 (first | (exact CallForm.lent aL rfl rfl) | exact aC)) | (with_reducible apply And.intro) | exact aG | fail)
      refine ⟨⟨k + 1, hkr⟩, ?_, by simp only; omega⟩
      exact aH
    · obtain rfl : k = a.length := by omega
      repeat' (first | simp (maxSteps := 9999999) only [↓GE, PL, PP, EE, QQ, seval] | (simp (disch := omega) only [IntWalk.i64_in]) | (refine go_brD (fun h => ?_) (fun h => ?_)) | (refine go_gsD aE (fun h => ?_) (fun h => ?_)) | (refine go_br (fun h => ?_) (fun h => ?_)) | (refine go_gs aE (fun h => ?_) (fun h => ?_)) | (with_reducible apply And.intro) | exact aG | fail)
      all_goals ((first | apply ret_mk [some 16] | apply end_mk [some 16]); (· exact aR); (· ((try simp only [CC, LL, EE, QQ, seval]) <;> repeat' (first | exact aD | (with_reducible apply And.intro) | (simp [*, timesF]; done) | (simp [*, timesF]; omega) | (simp_all [timesF]; done) | (simp_all [timesF]; omega)))); all_goals (first | ((try simp only [CC, LL, EE, QQ, seval]) <;> (repeat' (first | (with_reducible apply And.intro) | trivial | rfl | (simp [timesF]; done))); done) | exact aF))
theorem openP (p : Int) (a b : List Int) (hf : fieldB p = true) (ha : a.all (inE p) = true) (hb : b.all (inE p) = true) (ha2 : a.length ≤ 512) (hb2 : b.length ≤ 512) : Does Tryz.prog 94 [.ag [I p], .d (dRows [a, b])] [] (.tu [I p, I 0]) [] [] := by
  refine go_poly_open rfl BxOK.nil fun cx hm0 => go_in 5000 ?_
  unfold ac_poly_open rs_poly_open
  have e1 := resOf p
  rw [hf, if_pos rfl] at e1
  repeat' (first | simp (maxSteps := 9999999) only [↓GE, PL, PP, EE, QQ, seval, List.map_cons, List.map_nil, List.length_cons, List.length_nil] | (simp (disch := omega) only [IntWalk.i64_in]) | (refine go_brD (fun h => ?_) (fun h => ?_)) | (refine go_gsD aE (fun h => ?_) (fun h => ?_)) | (refine go_br (fun h => ?_) (fun h => ?_)) | (refine go_gs aE (fun h => ?_) (fun h => ?_)) | (apply go_call 5000 (e1) rfl rfl; iterate 4 (first | (exact CallForm.plain rfl) | exact aC)) | (with_reducible apply And.intro) | exact aG | fail)
  refine go_loop 5000 hm0 (ι := {k : Nat // k ≤ 2}) (fun i => [(6, I p), (8, B false), (18, .d (dRows [a, b])), (19, I 2), (20, I i.1)]) (fun i => []) (fun i => 2 - i.1) [] ⟨0, by omega⟩ ?_ ?_
  · exact aH
  · rintro ⟨k, hk⟩
    simp only
    by_cases hkr : k < 2
    · have hs : [[dInts a], [dInts b]].getD k [] = eR ([a, b].getD k []) := getD_map eR [] [] [a, b] k hkr
      have hc : ([a, b].getD k []).all (inE p) = true ∧ ([a, b].getD k []).length ≤ 512 := by
        match k, hkr with
        | 0, _ => exact ⟨ha, ha2⟩
        | 1, _ => exact ⟨hb, hb2⟩
      generalize [a, b].getD k [] = c at hs hc
      have e2 := allF p c (by omega)
      rw [hc.1] at e2
      have q : decide ((c.length : Int) > 512) = false := decide_eq_false (by omega)
      have q1 : decide ((k : Int) < 2) = true := decide_eq_true (by omega)
      have q2 : k < 2 := hkr
      repeat' (first | simp (maxSteps := 9999999) only [↓GE, PL, PP, EE, QQ, seval, hs, q, q1, q2, eR, List.length_map] | (simp (disch := omega) only [IntWalk.i64_in]) | (refine go_brD (fun h => ?_) (fun h => ?_)) | (refine go_gsD aE (fun h => ?_) (fun h => ?_)) | (refine go_br (fun h => ?_) (fun h => ?_)) | (refine go_gs aE (fun h => ?_) (fun h => ?_)) | (apply go_call 5000 (e2) rfl rfl; iterate 4 (first | (exact CallForm.plain rfl) | exact aC)) | (with_reducible apply And.intro) | exact aG | fail)
      refine ⟨⟨k + 1, hkr⟩, ?_, by simp only; omega⟩
      exact aH
    · obtain rfl : k = 2 := by omega
      repeat' (first | simp (maxSteps := 9999999) only [↓GE, PL, PP, EE, QQ, seval] | (simp (disch := omega) only [IntWalk.i64_in]) | (refine go_brD (fun h => ?_) (fun h => ?_)) | (refine go_gsD aE (fun h => ?_) (fun h => ?_)) | (refine go_br (fun h => ?_) (fun h => ?_)) | (refine go_gs aE (fun h => ?_) (fun h => ?_)) | (with_reducible apply And.intro) | exact aG | fail)
      all_goals ((first | apply ret_mk [] | apply end_mk []); (· exact aR); (· exact aZ); all_goals exact aF)
theorem inverse (p a : Int) (hf : fieldB p = true) (ha : 0 < a ∧ a < p) : Does Tryz.prog 97 [I p, I a] [] (I (invI p a)) [] [] := by
  obtain ⟨h1, h2, h3⟩ := fieldB_iff.1 hf
  have hP := isP_field hf
  refine does_at (r := .int .i64 (invI p a)) rfl fun w m hd S us hS hv => ?_
  simp only [VRs, VR, I, D.is] at hv
  obtain ⟨u, r, rfl, ⟨rfl, -⟩, u2, r2, rfl, ⟨rfl, -⟩, rfl⟩ := hv
  have := Go.Proofs.YthbhkkdaaipngaaGreatDoor.Field.pInverse_any p.toNat a.toNat w hP (by omega) (by omega) (by omega)
  rw [show ((p.toNat : Nat) : Int) = p by omega, show ((a.toNat : Nat) : Int) = a by omega] at this
  refine this.mono ?_
  rintro e w' ⟨rfl, rfl⟩
  exact ⟨rfl, Below.refl _ _⟩
end Go.Proofs.YthbhkkdaaipngaaGreatDoor.Sim
