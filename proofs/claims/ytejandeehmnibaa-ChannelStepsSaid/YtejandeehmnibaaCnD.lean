/- Notes that are dropped; the numbers of a server's notes. -/
import Derived.Test.YtejandeehmnibaaCnC
namespace Go.Proofs.Ytejandeehmnibaa.Sim
open Go
set_option maxRecDepth 100000
set_option maxHeartbeats 4000000
set_option linter.unusedVariables false
set_option linter.unusedSimpArgs false
attribute [local irreducible] Go Mean
theorem getD_set {α : Type} (z : α) (l : List α) (i j : Nat) (x : α) : (l.set i x).getD j z = if i = j ∧ j < l.length then x else l.getD j z := by
  rw [List.getD_eq_getElem?_getD, List.getD_eq_getElem?_getD, List.getElem?_set]
  by_cases h : i = j
  · subst h
    by_cases h2 : i < l.length
    · simp [h2]
    · simp [h2]
  · simp [h]
def delR (rd : Int) (n : PNote) : Bool := n.read == rd
theorem drop1 (rd : Int) (n : PNote) : Does Try.prog 27 [vNote n, .bp 900000 0 0] [(900000, .box 0 [I rd])] (B (delR rd n)) [(900000, .box 0 [I rd])] [] := by
  refine go_channel_Drop_1 rfl BxOK.one fun cx hm0 => go_in 5000 ?_
  unfold ac_channel_Drop_1 rs_channel_Drop_1
  repeat' (first | simp (maxSteps := 9999999) only [↓GE, PL, PP, EE, QQ, seval] | (simp (disch := omega) only [IntWalk.i64_in]) | (refine go_brD (fun h => ?_) (fun h => ?_)) | (refine go_gsD (by ((try simp only [EE, QQ, seval]) <;> rfl)) (fun h => ?_) (fun h => ?_)) | (refine go_br (fun h => ?_) (fun h => ?_)) | (refine go_gs (by ((try simp only [EE, QQ, seval]) <;> rfl)) (fun h => ?_) (fun h => ?_)) | (with_reducible apply And.intro) | (with_reducible exact trivial) | omega | (simp only [List.length_map, List.length_cons, List.length_nil] at *; omega) | (show _ = true; first | rfl | kernel_rfl))
  all_goals ((first | apply ret_mk [] | apply end_mk []); (· ((try simp only [CC, LL, EE, QQ, seval]) <;> rfl)); (· ((try simp only [CC, LL, EE, QQ, seval]) <;> repeat' (first | (with_reducible apply And.intro) | rfl | trivial | (exact ⟨_, rfl⟩) | (exact ⟨_, _, _, rfl⟩) | (simp [*, delR]; done) | (simp [*, delR]; omega) | (simp_all [delR]; done) | (simp_all [delR]; omega)))); all_goals (first | trivial | decide | ((try simp only [CC, LL, EE, QQ, seval]) <;> repeat' (first | (with_reducible apply And.intro) | (exact ⟨_, rfl, rfl, rfl⟩) | (exact ⟨_, _, _, rfl⟩) | (exact ⟨_, rfl⟩) | trivial | rfl | (simp; done)))))
theorem drop1' (rd : Int) (n : PNote) : Does Try.prog 27 [vNote n, .bp 900001 0 0] [(900001, .box 0 [I rd])] (B (delR rd n)) [(900001, .box 0 [I rd])] [] :=
  (drop1 rd n).nm [(900000, 900001, 0)] rfl rfl rfl rfl rfl rfl rfl rfl rfl
/-- Those of the first n that stay. -/
def stayN (c : List PNote) (rd : Int) : Nat → List PNote
  | 0 => []
  | n + 1 => if delR rd (c.getD n noNote) = true then stayN c rd n else stayN c rd n ++ [c.getD n noNote]
theorem stayN_len {c : List PNote} {rd : Int} : ∀ {n : Nat}, (stayN c rd n).length ≤ n
  | 0 => Nat.le_refl _
  | n + 1 => by
    have := stayN_len (c := c) (rd := rd) (n := n)
    rw [stayN]; split <;> simp <;> omega
theorem stayN_all {c : List PNote} {rd : Int} : ∀ {n : Nat}, n ≤ c.length → (∀ j, j < n → delR rd (c.getD j noNote) = false) → stayN c rd n = c.take n
  | 0, _, _ => by simp [stayN]
  | n + 1, hn, h => by
    rw [stayN, if_neg (by rw [h n (by omega)]; simp), stayN_all (by omega) fun j hj => h j (by omega), take_succ_getD noNote c n (by omega)]
theorem nindex (c : List PNote) (rd : Int) (hl : c.length ≤ 1000000000) (r : Int) (hr : (∃ k : Nat, r = k ∧ k < c.length ∧ (∀ j, j < k → delR rd (c.getD j noNote) = false) ∧ delR rd (c.getD k noNote) = true) ∨ (r = -1 ∧ ∀ j, j < c.length → delR rd (c.getD j noNote) = false)) :
    Does Try.prog 34 [.og 900000 0, .cl 27 [.bp 900001 0 0]] [(900000, .arr 0 8 true (c.map eNote)), (900001, .box 0 [I rd])] (I r) [(900000, .arr 0 8 true (c.map eNote)), (900001, .box 0 [I rd])] [] := by
  refine go_slices_IndexFunc_api_Note_api_Note rfl ⟨rfl, by simp⟩ fun cx hm0 => go_in 5000 ?_
  unfold ac_slices_IndexFunc_api_Note_api_Note rs_slices_IndexFunc_api_Note_api_Note
  repeat' (first | simp (maxSteps := 9999999) only [↓GE, PL, PP, EE, QQ, seval, List.length_map] | (simp (disch := omega) only [IntWalk.i64_in]) | (refine go_brD (fun h => ?_) (fun h => ?_)) | (refine go_gsD (by ((try simp only [EE, QQ, seval]) <;> rfl)) (fun h => ?_) (fun h => ?_)) | (refine go_br (fun h => ?_) (fun h => ?_)) | (refine go_gs (by ((try simp only [EE, QQ, seval]) <;> rfl)) (fun h => ?_) (fun h => ?_)) | (with_reducible apply And.intro) | (with_reducible exact trivial) | omega | (simp only [List.length_map, List.length_cons, List.length_nil] at *; omega) | (show _ = true; first | rfl | kernel_rfl))
  refine go_loop 5000 hm0 (ι := {k : Nat // k ≤ c.length ∧ ∀ j, j < k → delR rd (c.getD j noNote) = false}) (fun i => [(0, .og 900000 0), (1, .cl 27 [.bp 900001 0 0]), (7, I c.length), (8, I i.1)]) (fun i => [(900000, .arr 0 8 true (c.map eNote)), (900001, .box 0 [I rd])]) (fun i => c.length - i.1) [] ⟨0, Nat.zero_le _, fun j hj => by omega⟩ ?_ ?_
  · (simp only [GeS]; refine ⟨?_, ?_, ?_, ?_⟩; all_goals (repeat' (first | trivial | (with_reducible rfl) | simp only [CC, LL, EE, QQ, seval] | (with_reducible apply And.intro) | rfl | (refine ⟨_, rfl, ?_⟩) | (simp; done) | omega)))
  · rintro ⟨k, hk, hn⟩
    simp only
    by_cases hkl : k < c.length
    · have hs1 := getD_map eNote [] noNote c k hkl
      have e1 := drop1' rd (c.getD k noNote)
      have hgo : delR rd (c.getD k noNote) = false → ∀ j, j < k + 1 → delR rd (c.getD j noNote) = false := fun hne j hj => by
        by_cases e : j = k
        · subst e; exact hne
        · exact hn j (by omega)
      cases hd : delR rd (c.getD k noNote) with
      | true =>
        rw [hd] at e1
        have hrk : r = k := by
          rcases hr with ⟨k', h1, h2, h4, h5⟩ | ⟨h1, h3⟩
          · have : k' = k := by
              rcases Nat.lt_trichotomy k' k with g | g | g
              · have := hn k' g; rw [h5] at this; cases this
              · exact g
              · have := h4 k g; rw [hd] at this; cases this
            subst this; exact h1
          · have := h3 k hkl; rw [hd] at this; cases this
        subst hrk
        clear hgo hr hd
        generalize c.getD k noNote = t at *
        repeat' (first | simp (maxSteps := 9999999) only [↓GE, PL, PP, EE, QQ, seval, hs1, hkl, eNote, List.length_map] | (simp (disch := omega) only [IntWalk.i64_in]) | (refine go_brD (fun h => ?_) (fun h => ?_)) | (refine go_gsD (by ((try simp only [EE, QQ, seval]) <;> rfl)) (fun h => ?_) (fun h => ?_)) | (refine go_br (fun h => ?_) (fun h => ?_)) | (refine go_gs (by ((try simp only [EE, QQ, seval]) <;> rfl)) (fun h => ?_) (fun h => ?_)) | (apply go_callv 5000 (e1) rfl (by kernel_rfl) rfl; (· ((try simp only [CC, LL, NM, EE, QQ, seval]) <;> (first | rfl | ((repeat constructor); done)))); (· exact CallForm.lent (by (try simp only [CC, LL, NM, EE, QQ, seval]); repeat' (first | trivial | (with_reducible rfl) | omega | (with_reducible apply And.intro) | rfl)) rfl rfl); (· ((try simp only [CC, LL, NM, EE, QQ, seval]) <;> (first | rfl | ((repeat constructor); done)))); (· ((try simp only [CC, LL, NM, EE, QQ, seval]) <;> (first | rfl | ((repeat constructor); done))))) | (with_reducible apply And.intro) | (with_reducible exact trivial) | omega | (simp only [List.length_map, List.length_cons, List.length_nil] at *; omega) | (show _ = true; first | rfl | kernel_rfl))
        all_goals ((first | apply ret_mk [] | apply end_mk []); (· ((try simp only [CC, LL, EE, QQ, seval]) <;> rfl)); (· ((try simp only [CC, LL, EE, QQ, seval]) <;> repeat' (first | (with_reducible apply And.intro) | rfl | trivial | (exact ⟨_, rfl⟩) | (exact ⟨_, _, _, rfl⟩) | (simp [*, ]; done) | (simp [*, ]; omega) | (simp_all []; done) | (simp_all []; omega)))); all_goals (first | trivial | decide | ((try simp only [CC, LL, EE, QQ, seval]) <;> repeat' (first | (with_reducible apply And.intro) | (exact ⟨_, rfl, rfl, rfl⟩) | (exact ⟨_, _, _, rfl⟩) | (exact ⟨_, rfl⟩) | trivial | rfl | (simp; done)))))
      | false =>
        rw [hd] at e1
        have hg := hgo hd
        clear hgo hr hd
        generalize hT : c.getD k noNote = t at hs1 e1
        repeat' (first | simp (maxSteps := 9999999) only [↓GE, PL, PP, EE, QQ, seval, hs1, hkl, eNote, List.length_map] | (simp (disch := omega) only [IntWalk.i64_in]) | (refine go_brD (fun h => ?_) (fun h => ?_)) | (refine go_gsD (by ((try simp only [EE, QQ, seval]) <;> rfl)) (fun h => ?_) (fun h => ?_)) | (refine go_br (fun h => ?_) (fun h => ?_)) | (refine go_gs (by ((try simp only [EE, QQ, seval]) <;> rfl)) (fun h => ?_) (fun h => ?_)) | (apply go_callv 5000 (e1) rfl (by kernel_rfl) rfl; (· ((try simp only [CC, LL, NM, EE, QQ, seval]) <;> (first | rfl | ((repeat constructor); done)))); (· exact CallForm.lent (by (try simp only [CC, LL, NM, EE, QQ, seval]); repeat' (first | trivial | (with_reducible rfl) | omega | (with_reducible apply And.intro) | rfl)) rfl rfl); (· ((try simp only [CC, LL, NM, EE, QQ, seval]) <;> (first | rfl | ((repeat constructor); done)))); (· ((try simp only [CC, LL, NM, EE, QQ, seval]) <;> (first | rfl | ((repeat constructor); done))))) | (with_reducible apply And.intro) | (with_reducible exact trivial) | omega | (simp only [List.length_map, List.length_cons, List.length_nil] at *; omega) | (show _ = true; first | rfl | kernel_rfl))
        refine ⟨⟨k + 1, hkl, hg⟩, ?_, by simp only; omega⟩
        (simp only [GeS]; refine ⟨?_, ?_, ?_, ?_⟩; all_goals (repeat' (first | trivial | (with_reducible rfl) | simp only [CC, LL, EE, QQ, seval] | (with_reducible apply And.intro) | rfl | (refine ⟨_, rfl, ?_⟩) | (simp; done) | omega)))
    · obtain rfl : k = c.length := by omega
      have hrk : r = -1 := by
        rcases hr with ⟨k', h1, h2, h4, h5⟩ | ⟨h1, h3⟩
        · have := hn k' h2; rw [h5] at this; cases this
        · exact h1
      subst hrk
      repeat' (first | simp (maxSteps := 9999999) only [↓GE, PL, PP, EE, QQ, seval] | (simp (disch := omega) only [IntWalk.i64_in]) | (refine go_brD (fun h => ?_) (fun h => ?_)) | (refine go_gsD (by ((try simp only [EE, QQ, seval]) <;> rfl)) (fun h => ?_) (fun h => ?_)) | (refine go_br (fun h => ?_) (fun h => ?_)) | (refine go_gs (by ((try simp only [EE, QQ, seval]) <;> rfl)) (fun h => ?_) (fun h => ?_)) | (with_reducible apply And.intro) | (with_reducible exact trivial) | omega | (simp only [List.length_map, List.length_cons, List.length_nil] at *; omega) | (show _ = true; first | rfl | kernel_rfl))
      all_goals ((first | apply ret_mk [] | apply end_mk []); (· ((try simp only [CC, LL, EE, QQ, seval]) <;> rfl)); (· ((try simp only [CC, LL, EE, QQ, seval]) <;> repeat' (first | (with_reducible apply And.intro) | rfl | trivial | (exact ⟨_, rfl⟩) | (exact ⟨_, _, _, rfl⟩) | (simp [*, ]; done) | (simp [*, ]; omega) | (simp_all []; done) | (simp_all []; omega)))); all_goals (first | trivial | decide | ((try simp only [CC, LL, EE, QQ, seval]) <;> repeat' (first | (with_reducible apply And.intro) | (exact ⟨_, rfl, rfl, rfl⟩) | (exact ⟨_, _, _, rfl⟩) | (exact ⟨_, rfl⟩) | trivial | rfl | (simp; done)))))
theorem take_set_succ {α : Type} : ∀ (l : List α) (i : Nat) (x : α), i < l.length → (l.set i x).take (i + 1) = l.take i ++ [x]
  | [], i, x, h => by simp at h
  | y :: l, 0, x, h => by simp
  | y :: l, i + 1, x, h => by
    have := take_set_succ l i x (by simpa using h)
    simp only [List.set_cons_succ, List.take_succ_cons, this, List.cons_append]
def stayV (c : List PNote) (rd : Int) : Nat := if (stayN c rd c.length).length = c.length then 0 else 1
theorem ndelete (c : List PNote) (rd : Int) (hl : c.length ≤ 1000000000) : Does Try.prog 26 [.og 900000 0, .cl 27 [.bp 900001 0 0]] [(900000, .arr 0 8 true (c.map eNote)), (900001, .box 0 [I rd])]
    (.og 900000 (stayV c rd)) [(900000, .arr (stayV c rd) 8 true ((stayN c rd c.length).map eNote)), (900001, .box 0 [I rd])] [] := by
  refine go_slices_DeleteFunc_api_Note_api_Note rfl ⟨rfl, by simp⟩ fun cx hm0 => go_in 5000 ?_
  unfold ac_slices_DeleteFunc_api_Note_api_Note rs_slices_DeleteFunc_api_Note_api_Note
  by_cases hall : ∀ j, j < c.length → delR rd (c.getD j noNote) = false
  · have e1 := nindex c rd hl (-1) (.inr ⟨rfl, hall⟩)
    have hK : stayN c rd c.length = c := by rw [stayN_all (Nat.le_refl _) hall, List.take_length]
    have hV : stayV c rd = 0 := by rw [stayV, hK, if_pos rfl]
    rw [hV, hK]
    repeat' (first | simp (maxSteps := 9999999) only [↓GE, PL, PP, EE, QQ, seval] | (simp (disch := omega) only [IntWalk.i64_in]) | (refine go_brD (fun h => ?_) (fun h => ?_)) | (refine go_gsD (by ((try simp only [EE, QQ, seval]) <;> rfl)) (fun h => ?_) (fun h => ?_)) | (refine go_br (fun h => ?_) (fun h => ?_)) | (refine go_gs (by ((try simp only [EE, QQ, seval]) <;> rfl)) (fun h => ?_) (fun h => ?_)) | (apply go_call 5000 (e1) rfl rfl; (· ((try simp only [CC, LL, NM, EE, QQ, seval]) <;> (first | rfl | ((repeat constructor); done)))); (· exact CallForm.lent (by (try simp only [CC, LL, NM, EE, QQ, seval]); repeat' (first | trivial | (with_reducible rfl) | omega | (with_reducible apply And.intro) | rfl)) rfl rfl); (· ((try simp only [CC, LL, NM, EE, QQ, seval]) <;> (first | rfl | ((repeat constructor); done)))); (· ((try simp only [CC, LL, NM, EE, QQ, seval]) <;> (first | rfl | ((repeat constructor); done))))) | (with_reducible apply And.intro) | (with_reducible exact trivial) | omega | (simp only [List.length_map, List.length_cons, List.length_nil] at *; omega) | (show _ = true; first | rfl | kernel_rfl))
    all_goals ((first | apply ret_mk [] | apply end_mk []); (· ((try simp only [CC, LL, EE, QQ, seval]) <;> rfl)); (· ((try simp only [CC, LL, EE, QQ, seval]) <;> repeat' (first | (with_reducible apply And.intro) | rfl | trivial | (exact ⟨_, rfl⟩) | (exact ⟨_, _, _, rfl⟩) | (simp [*, ]; done) | (simp [*, ]; omega) | (simp_all []; done) | (simp_all []; omega)))); all_goals (first | trivial | decide | ((try simp only [CC, LL, EE, QQ, seval]) <;> repeat' (first | (with_reducible apply And.intro) | (exact ⟨_, rfl, rfl, rfl⟩) | (exact ⟨_, _, _, rfl⟩) | (exact ⟨_, rfl⟩) | trivial | rfl | (simp; done)))))
  · obtain ⟨k0, g1, g2, g3⟩ : ∃ k, k < c.length ∧ (∀ j, j < k → delR rd (c.getD j noNote) = false) ∧ delR rd (c.getD k noNote) = true := by
      have : ∀ n, n ≤ c.length → (∀ j, j < n → delR rd (c.getD j noNote) = false) ∨ ∃ k, k < c.length ∧ (∀ j, j < k → delR rd (c.getD j noNote) = false) ∧ delR rd (c.getD k noNote) = true := by
        intro n
        induction n with
        | zero => intro _; exact .inl fun j hj => by omega
        | succ n ih =>
          intro hn
          rcases ih (by omega) with h | h
          · cases hd : delR rd (c.getD n noNote) with
            | true => exact .inr ⟨n, by omega, h, hd⟩
            | false =>
              refine .inl fun j hj => ?_
              by_cases e : j = n
              · subst e; exact hd
              · exact h j (by omega)
          · exact .inr h
      rcases this c.length (Nat.le_refl _) with h | h
      · exact absurd h hall
      · exact h
    have e1 := nindex c rd hl k0 (.inl ⟨k0, rfl, g1, g2, g3⟩)
    have hK0 : stayN c rd (k0 + 1) = c.take k0 := by rw [stayN, if_pos g3, stayN_all (by omega) g2]
    have hK0l : (stayN c rd (k0 + 1)).length = k0 := by rw [hK0, List.length_take]; omega
    have q0 : ((k0 : Int) == -1) = false := by rw [beq_eq_false_iff_ne]; omega
    repeat' (first | simp (maxSteps := 9999999) only [↓GE, PL, PP, EE, QQ, seval, q0] | (simp (disch := omega) only [IntWalk.i64_in]) | (refine go_brD (fun h => ?_) (fun h => ?_)) | (refine go_gsD (by ((try simp only [EE, QQ, seval]) <;> rfl)) (fun h => ?_) (fun h => ?_)) | (refine go_br (fun h => ?_) (fun h => ?_)) | (refine go_gs (by ((try simp only [EE, QQ, seval]) <;> rfl)) (fun h => ?_) (fun h => ?_)) | (apply go_call 5000 (e1) rfl rfl; (· ((try simp only [CC, LL, NM, EE, QQ, seval]) <;> (first | rfl | ((repeat constructor); done)))); (· exact CallForm.lent (by (try simp only [CC, LL, NM, EE, QQ, seval]); repeat' (first | trivial | (with_reducible rfl) | omega | (with_reducible apply And.intro) | rfl)) rfl rfl); (· ((try simp only [CC, LL, NM, EE, QQ, seval]) <;> (first | rfl | ((repeat constructor); done)))); (· ((try simp only [CC, LL, NM, EE, QQ, seval]) <;> (first | rfl | ((repeat constructor); done))))) | (with_reducible apply And.intro) | (with_reducible exact trivial) | omega | (simp only [List.length_map, List.length_cons, List.length_nil] at *; omega) | (show _ = true; first | rfl | kernel_rfl))
    refine go_loop 5000 hm0 (ι := {q : Nat × List PNote // q.1 ≤ c.length ∧ k0 + 1 ≤ q.1 ∧ q.2.length = c.length ∧ (stayN c rd q.1).length < q.1 ∧ q.2.take (stayN c rd q.1).length = stayN c rd q.1 ∧ ∀ m, q.1 ≤ m → m < c.length → q.2.getD m noNote = c.getD m noNote}) (fun i => [(0, .og 900000 0), (1, .cl 27 [.bp 900001 0 0]), (5, I (stayN c rd i.1.1).length), (6, I i.1.1)]) (fun i => [(900000, .arr 0 8 true (i.1.2.map eNote)), (900001, .box 0 [I rd])]) (fun i => c.length - i.1.1) [] ⟨(k0 + 1, c), by omega, Nat.le_refl _, rfl, by rw [hK0l]; omega, by rw [hK0l]; exact hK0.symm, fun m _ _ => rfl⟩ ?_ ?_
    · (simp only [GeS]; refine ⟨?_, ?_, ?_, ?_⟩; all_goals (repeat' (first | trivial | (with_reducible rfl) | simp only [CC, LL, EE, QQ, seval] | (with_reducible apply And.intro) | rfl | (refine ⟨_, rfl, ?_⟩) | (simp [hK0l]; done) | omega)))
    · rintro ⟨⟨j, l'⟩, hj, hj0, hll, hkl, htk, hrest⟩
      simp only at hj hj0 hll hkl htk hrest ⊢
      clear hall g1 g2 g3 e1 hK0 hK0l q0
      by_cases hjl : j < c.length
      · have hs1 := getD_map eNote [] noNote l' j (by omega)
        rw [hrest j (Nat.le_refl _) hjl] at hs1
        have e2 := drop1' rd (c.getD j noNote)
        have hN : stayN c rd (j + 1) = if delR rd (c.getD j noNote) = true then stayN c rd j else stayN c rd j ++ [c.getD j noNote] := rfl
        cases hd : delR rd (c.getD j noNote) with
        | true =>
          rw [hd] at e2
          rw [hd, if_pos rfl] at hN
          generalize c.getD j noNote = t at hs1 e2
          repeat' (first | simp (maxSteps := 9999999) only [↓GE, PL, PP, EE, QQ, seval, hs1, hjl, hll, eNote, List.length_map] | (simp (disch := omega) only [IntWalk.i64_in]) | (refine go_brD (fun h => ?_) (fun h => ?_)) | (refine go_gsD (by ((try simp only [EE, QQ, seval]) <;> rfl)) (fun h => ?_) (fun h => ?_)) | (refine go_br (fun h => ?_) (fun h => ?_)) | (refine go_gs (by ((try simp only [EE, QQ, seval]) <;> rfl)) (fun h => ?_) (fun h => ?_)) | (apply go_callv 5000 (e2) rfl (by kernel_rfl) rfl; (· ((try simp only [CC, LL, NM, EE, QQ, seval]) <;> (first | rfl | ((repeat constructor); done)))); (· exact CallForm.lent (by (try simp only [CC, LL, NM, EE, QQ, seval]); repeat' (first | trivial | (with_reducible rfl) | omega | (with_reducible apply And.intro) | rfl)) rfl rfl); (· ((try simp only [CC, LL, NM, EE, QQ, seval]) <;> (first | rfl | ((repeat constructor); done)))); (· ((try simp only [CC, LL, NM, EE, QQ, seval]) <;> (first | rfl | ((repeat constructor); done))))) | (with_reducible apply And.intro) | (with_reducible exact trivial) | omega | (simp only [List.length_map, List.length_cons, List.length_nil] at *; omega) | (show _ = true; first | rfl | kernel_rfl))
          refine ⟨⟨(j + 1, l'), hjl, by simp only; omega, hll, by simp only [hN]; omega, by simp only [hN]; exact htk, fun m h1 h2 => hrest m (by simp only at h1; omega) h2⟩, ?_, by simp only; omega⟩
          (simp only [GeS]; refine ⟨?_, ?_, ?_, ?_⟩; all_goals (repeat' (first | trivial | (with_reducible rfl) | simp only [CC, LL, EE, QQ, seval] | (with_reducible apply And.intro) | rfl | (refine ⟨_, rfl, ?_⟩) | (simp [hN]; done) | omega)))
        | false =>
          rw [hd] at e2
          rw [hd, if_neg (by simp)] at hN
          have hil : (stayN c rd j).length < l'.length := by omega
          have hil2 : (stayN c rd j).length < c.length := by omega
          have hset : (l'.map eNote).set (stayN c rd j).length (eNote (c.getD j noNote)) = (l'.set (stayN c rd j).length (c.getD j noNote)).map eNote := by rw [List.map_set]
          have htk' := take_set_succ l' (stayN c rd j).length (c.getD j noNote) hil
          have hs2 := getD_map eNote [] noNote l' (stayN c rd j).length hil
          have hNl : (stayN c rd (j + 1)).length = (stayN c rd j).length + 1 := by rw [hN, List.length_append]; rfl
          have hrest' : ∀ m, j + 1 ≤ m → m < c.length → (l'.set (stayN c rd j).length (c.getD j noNote)).getD m noNote = c.getD m noNote := fun m h1 h2 => by
            rw [getD_set, if_neg (by omega)]; exact hrest m (by omega) h2
          have hfin : (l'.set (stayN c rd j).length (c.getD j noNote)).take (stayN c rd (j + 1)).length = stayN c rd (j + 1) := by rw [hNl, htk', htk, hN]
          clear htk' hN
          have hNl' : ((stayN c rd (j + 1)).length : Int) = (stayN c rd j).length + 1 := by omega
          generalize c.getD j noNote = t at hs1 e2 hset hrest' hfin
          generalize l'.getD (stayN c rd j).length noNote = t2 at hs2
          simp only [eNote] at hset
          have hll' : (l'.set (stayN c rd j).length t).length = c.length := by rw [List.length_set]; exact hll
          repeat' (first | simp (maxSteps := 9999999) only [↓GE, PL, PP, EE, QQ, seval, hs1, hs2, hjl, hil2, hll, eNote, List.length_map] | (simp (disch := omega) only [IntWalk.i64_in]) | (refine go_brD (fun h => ?_) (fun h => ?_)) | (refine go_gsD (by ((try simp only [EE, QQ, seval]) <;> rfl)) (fun h => ?_) (fun h => ?_)) | (refine go_br (fun h => ?_) (fun h => ?_)) | (refine go_gs (by ((try simp only [EE, QQ, seval]) <;> rfl)) (fun h => ?_) (fun h => ?_)) | (apply go_callv 5000 (e2) rfl (by kernel_rfl) rfl; (· ((try simp only [CC, LL, NM, EE, QQ, seval]) <;> (first | rfl | ((repeat constructor); done)))); (· exact CallForm.lent (by (try simp only [CC, LL, NM, EE, QQ, seval]); repeat' (first | trivial | (with_reducible rfl) | omega | (with_reducible apply And.intro) | rfl)) rfl rfl); (· ((try simp only [CC, LL, NM, EE, QQ, seval]) <;> (first | rfl | ((repeat constructor); done)))); (· ((try simp only [CC, LL, NM, EE, QQ, seval]) <;> (first | rfl | ((repeat constructor); done))))) | (with_reducible apply And.intro) | (with_reducible exact trivial) | omega | (simp only [List.length_map, List.length_cons, List.length_nil] at *; omega) | (show _ = true; first | rfl | kernel_rfl))
          refine ⟨⟨(j + 1, l'.set (stayN c rd j).length t), hjl, by simp only; omega, hll', by simp only; omega, hfin, hrest'⟩, ?_, by simp only; omega⟩
          (simp only [GeS]; refine ⟨?_, ?_, ?_, ?_⟩; all_goals (repeat' (first | trivial | (with_reducible rfl) | simp only [CC, LL, EE, QQ, seval] | (with_reducible apply And.intro) | rfl | (refine ⟨_, rfl, ?_⟩) | (simp [hset, hNl']; done) | omega)))
      · obtain rfl : j = c.length := by omega
        have hV : stayV c rd = 1 := by rw [stayV, if_neg (by omega)]
        rw [hV]
        repeat' (first | simp (maxSteps := 9999999) only [↓GE, PL, PP, EE, QQ, seval, hll, List.length_map] | (simp (disch := omega) only [IntWalk.i64_in]) | (refine go_brD (fun h => ?_) (fun h => ?_)) | (refine go_gsD (by ((try simp only [EE, QQ, seval]) <;> rfl)) (fun h => ?_) (fun h => ?_)) | (refine go_br (fun h => ?_) (fun h => ?_)) | (refine go_gs (by ((try simp only [EE, QQ, seval]) <;> rfl)) (fun h => ?_) (fun h => ?_)) | (with_reducible apply And.intro) | (with_reducible exact trivial) | omega | (simp only [List.length_map, List.length_cons, List.length_nil] at *; omega) | (show _ = true; first | rfl | kernel_rfl))
        refine go_clr 5000 (i := 900000) (ver := 0) (n := (stayN c rd c.length).length) (kk := .i64) (ll := l'.map eNote) rfl rfl rfl (by rw [List.length_map]; omega) ?_
        have hcl : ∀ z, (clrL 8 z (l'.map eNote) (stayN c rd c.length).length).take (stayN c rd c.length).length = (stayN c rd c.length).map eNote := fun z => by
          unfold clrL
          rw [List.take_append_of_le_length (by rw [List.length_take, List.length_map]; omega), List.take_take, Nat.min_self, ← List.map_take, htk]
        have hcll : ∀ z, (clrL 8 z (l'.map eNote) (stayN c rd c.length).length).length = c.length := fun z => by
          unfold clrL
          simp; omega
        repeat' (first | simp (maxSteps := 9999999) only [↓GE, PL, PP, EE, QQ, seval, hcl, hcll, List.length_map] | (simp (disch := omega) only [IntWalk.i64_in]) | (refine go_brD (fun h => ?_) (fun h => ?_)) | (refine go_gsD (by ((try simp only [EE, QQ, seval]) <;> rfl)) (fun h => ?_) (fun h => ?_)) | (refine go_br (fun h => ?_) (fun h => ?_)) | (refine go_gs (by ((try simp only [EE, QQ, seval]) <;> rfl)) (fun h => ?_) (fun h => ?_)) | (with_reducible apply And.intro) | (with_reducible exact trivial) | omega | (simp only [List.length_map, List.length_cons, List.length_nil] at *; omega) | (show _ = true; first | rfl | kernel_rfl))
        all_goals ((first | apply ret_mk [] | apply end_mk []); (· ((try simp only [CC, LL, EE, QQ, seval]) <;> rfl)); (· ((try simp only [CC, LL, EE, QQ, seval]) <;> repeat' (first | (with_reducible apply And.intro) | rfl | trivial | (exact ⟨_, rfl⟩) | (exact ⟨_, _, _, rfl⟩) | (simp [*, hcl]; done) | (simp [*, hcl]; omega) | (simp_all [hcl]; done) | (simp_all [hcl]; omega)))); all_goals (first | trivial | decide | ((try simp only [CC, LL, EE, QQ, seval]) <;> repeat' (first | (with_reducible apply And.intro) | (exact ⟨_, rfl, rfl, rfl⟩) | (exact ⟨_, _, _, rfl⟩) | (exact ⟨_, rfl⟩) | trivial | rfl | (simp; done)))))
theorem ndelete' (c : List PNote) (rd : Int) (hl : c.length ≤ 1000000000) : Does Try.prog 26 [.og 9000 0, .cl 27 [.bp 3 0 0]] [(9000, .arr 0 8 true (c.map eNote)), (3, .box 0 [I rd])]
    (.og 9000 (stayV c rd)) [(9000, .arr (stayV c rd) 8 true ((stayN c rd c.length).map eNote)), (3, .box 0 [I rd])] [] :=
  (ndelete c rd hl).nm [(900000, 9000, 0), (900001, 3, 0)] rfl rfl rfl rfl rfl rfl rfl rfl rfl
theorem cdrop (c : List PNote) (rd : Int) (h : okNs c) : Does Try.prog 9 [vChan c, I rd] [] (vChan (stayN c rd c.length)) [] [] := by
  refine go_channel_Drop rfl BxOK.nil fun cx hm0 => go_in 5000 ?_
  unfold ac_channel_Drop rs_channel_Drop
  have e1 := own c h
  have e2 := ndelete' c rd h.1
  generalize stayN c rd c.length = K at *
  generalize stayV c rd = v at *
  repeat' (first | simp (maxSteps := 9999999) only [↓GE, PL, PP, EE, QQ, seval] | (simp (disch := omega) only [IntWalk.i64_in]) | (refine go_brD (fun h => ?_) (fun h => ?_)) | (refine go_gsD (by ((try simp only [EE, QQ, seval]) <;> rfl)) (fun h => ?_) (fun h => ?_)) | (refine go_br (fun h => ?_) (fun h => ?_)) | (refine go_gs (by ((try simp only [EE, QQ, seval]) <;> rfl)) (fun h => ?_) (fun h => ?_)) | (apply go_call 5000 (e1) rfl rfl; (· ((try simp only [CC, LL, NM, EE, QQ, seval]) <;> (first | rfl | ((repeat constructor); done)))); (· exact CallForm.news rfl rfl); (· ((try simp only [CC, LL, NM, EE, QQ, seval]) <;> (first | rfl | ((repeat constructor); done)))); (· ((try simp only [CC, LL, NM, EE, QQ, seval]) <;> (first | rfl | ((repeat constructor); done))))) | (apply go_call 5000 (e2) rfl rfl; (· ((try simp only [CC, LL, NM, EE, QQ, seval]) <;> (first | rfl | ((repeat constructor); done)))); (· exact CallForm.lent (by (try simp only [CC, LL, NM, EE, QQ, seval]); repeat' (first | trivial | (with_reducible rfl) | omega | (with_reducible apply And.intro) | rfl)) rfl rfl); (· ((try simp only [CC, LL, NM, EE, QQ, seval]) <;> (first | rfl | ((repeat constructor); done)))); (· ((try simp only [CC, LL, NM, EE, QQ, seval]) <;> (first | rfl | ((repeat constructor); done))))) | (with_reducible apply And.intro) | (with_reducible exact trivial) | omega | (simp only [List.length_map, List.length_cons, List.length_nil] at *; omega) | (show _ = true; first | rfl | kernel_rfl))
  all_goals ((first | apply ret_mk [] | apply end_mk []); (· ((try simp only [CC, LL, EE, QQ, seval]) <;> rfl)); (· ((try simp only [CC, LL, EE, QQ, seval]) <;> repeat' (first | (with_reducible apply And.intro) | rfl | trivial | (exact ⟨_, rfl⟩) | (exact ⟨_, _, _, rfl⟩) | (simp [*, ]; done) | (simp [*, ]; omega) | (simp_all []; done) | (simp_all []; omega)))); all_goals (first | trivial | decide | ((try simp only [CC, LL, EE, QQ, seval]) <;> repeat' (first | (with_reducible apply And.intro) | (exact ⟨_, rfl, rfl, rfl⟩) | (exact ⟨_, _, _, rfl⟩) | (exact ⟨_, rfl⟩) | trivial | rfl | (simp; done)))))
/-- The numbers of a server's notes, among the first n. -/
def betwN (c : List PNote) (sv : Int) : Nat → List Int
  | 0 => []
  | n + 1 => if (c.getD n noNote).server = sv then betwN c sv n ++ [(n : Int)] else betwN c sv n
theorem betwN_len {c : List PNote} {sv : Int} : ∀ {n : Nat}, (betwN c sv n).length ≤ n
  | 0 => Nat.le_refl _
  | n + 1 => by
    have := betwN_len (c := c) (sv := sv) (n := n)
    rw [betwN]; split <;> simp <;> omega
theorem betwN_mem {c : List PNote} {sv : Int} : ∀ {n : Nat} {x : Int}, x ∈ betwN c sv n → ∃ j : Nat, x = j ∧ j < n ∧ (c.getD j noNote).server = sv
  | 0, x, h => by simp [betwN] at h
  | n + 1, x, h => by
    rw [betwN] at h
    split at h
    · rename_i e
      rcases List.mem_append.1 h with h | h
      · obtain ⟨j, h1, h2, h3⟩ := betwN_mem h
        exact ⟨j, h1, by omega, h3⟩
      · simp only [List.mem_singleton] at h
        exact ⟨n, h, by omega, e⟩
    · obtain ⟨j, h1, h2, h3⟩ := betwN_mem h
      exact ⟨j, h1, by omega, h3⟩
theorem cbetween (c : List PNote) (sv : Int) (h : okNs c) : Does Try.prog 11 [vChan c, I sv] [] (.d (dInts (betwN c sv c.length))) [] [] := by
  refine go_channel_Between rfl BxOK.nil fun cx hm0 => go_in 5000 ?_
  unfold ac_channel_Between rs_channel_Between
  have hl := h.1
  repeat' (first | simp (maxSteps := 9999999) only [↓GE, PL, PP, EE, QQ, seval, List.length_map] | (simp (disch := omega) only [IntWalk.i64_in]) | (refine go_brD (fun h => ?_) (fun h => ?_)) | (refine go_gsD (by ((try simp only [EE, QQ, seval]) <;> rfl)) (fun h => ?_) (fun h => ?_)) | (refine go_br (fun h => ?_) (fun h => ?_)) | (refine go_gs (by ((try simp only [EE, QQ, seval]) <;> rfl)) (fun h => ?_) (fun h => ?_)) | (with_reducible apply And.intro) | (with_reducible exact trivial) | omega | (simp only [List.length_map, List.length_cons, List.length_nil] at *; omega) | (show _ = true; first | rfl | kernel_rfl))
  refine go_loop 5000 hm0 (ι := {q : Nat × Nat // q.1 ≤ c.length}) (fun i => [(1, I sv), (5, .og 23 i.1.2), (9, .d (dNotes c)), (10, I c.length), (11, I i.1.1)]) (fun i => [(23, .arr i.1.2 1 true ((betwN c sv i.1.1).map eI))]) (fun i => c.length - i.1.1) [23] ⟨(0, 0), Nat.zero_le _⟩ ?_ ?_
  · (simp only [GeS]; refine ⟨?_, ?_, ?_, ?_⟩; all_goals (repeat' (first | trivial | (with_reducible rfl) | simp only [CC, LL, EE, QQ, seval] | (with_reducible apply And.intro) | rfl | (refine ⟨_, rfl, ?_⟩) | (simp [betwN]; done) | omega)))
  · rintro ⟨⟨k, v⟩, hk⟩
    simp only at hk
    by_cases hkl : k < c.length
    · have hs1 := getD_map eNote [] noNote c k hkl
      have hN : betwN c sv (k + 1) = if (c.getD k noNote).server = sv then betwN c sv k ++ [(k : Int)] else betwN c sv k := rfl
      have hbl := betwN_len (c := c) (sv := sv) (n := k)
      generalize c.getD k noNote = t at *
      by_cases g : t.server = sv
      · have q : (t.server == sv) = true := by simp [g]
        rw [if_pos g] at hN
        repeat' (first | simp (maxSteps := 9999999) only [↓GE, PL, PP, EE, QQ, seval, hs1, hkl, q, eNote, List.length_map] | (simp (disch := omega) only [IntWalk.i64_in]) | (refine go_brD (fun h => ?_) (fun h => ?_)) | (refine go_gsD (by ((try simp only [EE, QQ, seval]) <;> rfl)) (fun h => ?_) (fun h => ?_)) | (refine go_br (fun h => ?_) (fun h => ?_)) | (refine go_gs (by ((try simp only [EE, QQ, seval]) <;> rfl)) (fun h => ?_) (fun h => ?_)) | (with_reducible apply And.intro) | (with_reducible exact trivial) | omega | (simp only [List.length_map, List.length_cons, List.length_nil] at *; omega) | (show _ = true; first | rfl | kernel_rfl))
        refine ⟨⟨(k + 1, v + 1), hkl⟩, ?_, by simp only; omega⟩
        (simp only [GeS]; refine ⟨?_, ?_, ?_, ?_⟩; all_goals (repeat' (first | trivial | (with_reducible rfl) | simp only [CC, LL, EE, QQ, seval] | (with_reducible apply And.intro) | rfl | (refine ⟨_, rfl, ?_⟩) | (simp [hN, eI]; done) | omega)))
      · have q : (t.server == sv) = false := by simp [g]
        rw [if_neg g] at hN
        repeat' (first | simp (maxSteps := 9999999) only [↓GE, PL, PP, EE, QQ, seval, hs1, hkl, q, eNote, List.length_map] | (simp (disch := omega) only [IntWalk.i64_in]) | (refine go_brD (fun h => ?_) (fun h => ?_)) | (refine go_gsD (by ((try simp only [EE, QQ, seval]) <;> rfl)) (fun h => ?_) (fun h => ?_)) | (refine go_br (fun h => ?_) (fun h => ?_)) | (refine go_gs (by ((try simp only [EE, QQ, seval]) <;> rfl)) (fun h => ?_) (fun h => ?_)) | (with_reducible apply And.intro) | (with_reducible exact trivial) | omega | (simp only [List.length_map, List.length_cons, List.length_nil] at *; omega) | (show _ = true; first | rfl | kernel_rfl))
        refine ⟨⟨(k + 1, v), hkl⟩, ?_, by simp only; omega⟩
        (simp only [GeS]; refine ⟨?_, ?_, ?_, ?_⟩; all_goals (repeat' (first | trivial | (with_reducible rfl) | simp only [CC, LL, EE, QQ, seval] | (with_reducible apply And.intro) | rfl | (refine ⟨_, rfl, ?_⟩) | (simp [hN]; done) | omega)))
    · obtain rfl : k = c.length := by omega
      repeat' (first | simp (maxSteps := 9999999) only [↓GE, PL, PP, EE, QQ, seval] | (simp (disch := omega) only [IntWalk.i64_in]) | (refine go_brD (fun h => ?_) (fun h => ?_)) | (refine go_gsD (by ((try simp only [EE, QQ, seval]) <;> rfl)) (fun h => ?_) (fun h => ?_)) | (refine go_br (fun h => ?_) (fun h => ?_)) | (refine go_gs (by ((try simp only [EE, QQ, seval]) <;> rfl)) (fun h => ?_) (fun h => ?_)) | (with_reducible apply And.intro) | (with_reducible exact trivial) | omega | (simp only [List.length_map, List.length_cons, List.length_nil] at *; omega) | (show _ = true; first | rfl | kernel_rfl))
      all_goals ((first | apply ret_mk [] | apply end_mk []); (· ((try simp only [CC, LL, EE, QQ, seval]) <;> rfl)); (· ((try simp only [CC, LL, EE, QQ, seval]) <;> repeat' (first | (with_reducible apply And.intro) | rfl | trivial | (exact ⟨_, rfl⟩) | (exact ⟨_, _, _, rfl⟩) | (simp [*, ]; done) | (simp [*, ]; omega) | (simp_all []; done) | (simp_all []; omega)))); all_goals (first | trivial | decide | ((try simp only [CC, LL, EE, QQ, seval]) <;> repeat' (first | (with_reducible apply And.intro) | (exact ⟨_, rfl, rfl, rfl⟩) | (exact ⟨_, _, _, rfl⟩) | (exact ⟨_, rfl⟩) | trivial | rfl | (simp; done)))))
end Go.Proofs.Ytejandeehmnibaa.Sim
