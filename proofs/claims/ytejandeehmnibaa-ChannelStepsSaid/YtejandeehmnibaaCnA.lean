/- Notes and channels. -/
import Derived.Test.YtejandeehmnibaaPlayA
namespace Go.Proofs.Ytejandeehmnibaa.Sim
open Go
set_option maxRecDepth 100000
set_option maxHeartbeats 4000000
set_option linter.unusedVariables false
set_option linter.unusedSimpArgs false
attribute [local irreducible] Go Mean
structure PNote where
  kind : Int
  read : Int
  probe : Int
  server : Int
  version : Int
  query : List Int
  values : List Int
  mark : Int
deriving DecidableEq
def eNote (n : PNote) : List D := [.at (.int .i64 n.kind), .at (.int .i64 n.read), .at (.int .i64 n.probe), .at (.int .i64 n.server), .at (.int .i64 n.version), dInts n.query, dInts n.values, .at (.int .i64 n.mark)]
abbrev dNotes (l : List PNote) : D := .sl 8 (l.map eNote)
abbrev vNote (n : PNote) : V := .ag [I n.kind, I n.read, I n.probe, I n.server, I n.version, .d (dInts n.query), .d (dInts n.values), I n.mark]
abbrev vChan (l : List PNote) : V := .ag [.d (dNotes l)]
def noNote : PNote := ⟨0, 0, 0, 0, 0, [], [], 0⟩
def okN (n : PNote) : Prop := n.query.length ≤ 17592186044416 ∧ n.values.length ≤ 17592186044416
def okNs (l : List PNote) : Prop := l.length ≤ 1000000000 ∧ ∀ n ∈ l, okN n
theorem okNs.get {l : List PNote} (h : okNs l) {k : Nat} (hk : k < l.length) : okN (l.getD k noNote) := h.2 _ (mem_getD noNote l k hk)
theorem Own (n : PNote) (h : okN n) : Does Try.prog 29 [vNote n] [] (vNote n) [] [] := by
  refine go_channel_Own rfl BxOK.nil fun cx hm0 => go_in 5000 ?_
  unfold ac_channel_Own rs_channel_Own
  repeat' (first | simp (maxSteps := 9999999) only [↓GE, PL, PP, EE, QQ, seval] | (simp (disch := omega) only [IntWalk.i64_in]) | (refine go_brD (fun h => ?_) (fun h => ?_)) | (refine go_gsD (by ((try simp only [EE, QQ, seval]) <;> rfl)) (fun h => ?_) (fun h => ?_)) | (refine go_br (fun h => ?_) (fun h => ?_)) | (refine go_gs (by ((try simp only [EE, QQ, seval]) <;> rfl)) (fun h => ?_) (fun h => ?_)) | (apply go_call 5000 (cloneInts _ h.1) rfl rfl; (· ((try simp only [CC, LL, NM, EE, QQ, seval]) <;> (first | rfl | ((repeat constructor); done)))); (· exact CallForm.news rfl rfl); (· ((try simp only [CC, LL, NM, EE, QQ, seval]) <;> (first | rfl | ((repeat constructor); done)))); (· ((try simp only [CC, LL, NM, EE, QQ, seval]) <;> (first | rfl | ((repeat constructor); done))))) | (apply go_call 5000 (cloneInts _ h.2) rfl rfl; (· ((try simp only [CC, LL, NM, EE, QQ, seval]) <;> (first | rfl | ((repeat constructor); done)))); (· exact CallForm.news rfl rfl); (· ((try simp only [CC, LL, NM, EE, QQ, seval]) <;> (first | rfl | ((repeat constructor); done)))); (· ((try simp only [CC, LL, NM, EE, QQ, seval]) <;> (first | rfl | ((repeat constructor); done))))) | (with_reducible apply And.intro) | (with_reducible exact trivial) | omega | (simp only [List.length_map, List.length_cons, List.length_nil] at *; omega) | (show _ = true; first | rfl | kernel_rfl))
  all_goals ((first | apply ret_mk [] | apply end_mk []); (· ((try simp only [CC, LL, EE, QQ, seval]) <;> rfl)); (· ((try simp only [CC, LL, EE, QQ, seval]) <;> repeat' (first | (with_reducible apply And.intro) | rfl | trivial | (exact ⟨_, rfl⟩) | (exact ⟨_, _, _, rfl⟩) | (simp [*, ]; done) | (simp [*, ]; omega) | (simp_all []; done) | (simp_all []; omega)))); all_goals (first | trivial | decide | ((try simp only [CC, LL, EE, QQ, seval]) <;> repeat' (first | (with_reducible apply And.intro) | (exact ⟨_, rfl, rfl, rfl⟩) | (exact ⟨_, _, _, rfl⟩) | (exact ⟨_, rfl⟩) | trivial | rfl | (simp; done)))))
theorem own (c : List PNote) (h : okNs c) : Does Try.prog 25 [vChan c] [] (.ag [.og 1000000 0]) [] [.arr 0 8 true (c.map eNote)] := by
  refine go_channel_own rfl BxOK.nil fun cx hm0 => go_in 5000 ?_
  unfold ac_channel_own rs_channel_own
  have hl := h.1
  repeat' (first | simp (maxSteps := 9999999) only [↓GE, PL, PP, EE, QQ, seval, List.length_map] | (simp (disch := omega) only [IntWalk.i64_in]) | (refine go_brD (fun h => ?_) (fun h => ?_)) | (refine go_gsD (by ((try simp only [EE, QQ, seval]) <;> rfl)) (fun h => ?_) (fun h => ?_)) | (refine go_br (fun h => ?_) (fun h => ?_)) | (refine go_gs (by ((try simp only [EE, QQ, seval]) <;> rfl)) (fun h => ?_) (fun h => ?_)) | (with_reducible apply And.intro) | (with_reducible exact trivial) | omega | (simp only [List.length_map, List.length_cons, List.length_nil] at *; omega) | (show _ = true; first | rfl | kernel_rfl))
  refine go_loop 5000 hm0 (ι := {p : Nat × List (List D) // p.1 ≤ c.length ∧ p.2.length = c.length ∧ (∀ j, j < p.1 → p.2.getD j [] = eNote (c.getD j noNote)) ∧ ∀ j, j < c.length → (p.2.getD j []).length = 8}) (fun i => [(2, .bp 2 0 0), (3, .og 9 0), (11, .d (dNotes c)), (12, I c.length), (13, I i.1.1)]) (fun i => [(2, .box 0 [.nl 8]), (9, .arr 0 8 true i.1.2)]) (fun i => c.length - i.1.1) [] ⟨(0, List.replicate c.length [.at (.int .i64 0), .at (.int .i64 0), .at (.int .i64 0), .at (.int .i64 0), .at (.int .i64 0), .sl 1 [], .sl 1 [], .at (.int .i64 0)]), Nat.zero_le _, by simp, fun j hj => by simp at hj, fun j hj => by simp [List.getD_eq_getElem?_getD, hj]⟩ ?_ ?_
  · (simp only [GeS]; refine ⟨?_, ?_, ?_, ?_⟩; all_goals (repeat' (first | trivial | (with_reducible rfl) | simp only [CC, LL, EE, QQ, seval] | (with_reducible apply And.intro) | rfl | (refine ⟨_, rfl, ?_⟩) | (simp; done) | omega)))
  · rintro ⟨⟨k, cur⟩, hk, hcl, hg, h8⟩
    simp only at hk hcl hg h8
    by_cases hkl : k < c.length
    · have hs := getD_map eNote [] noNote c k hkl
      have hn := h.get hkl
      have hnx : ∀ j, j < k + 1 → (cur.set k (eNote (c.getD k noNote))).getD j [] = eNote (c.getD j noNote) := fun j hj => by
        simp only [List.getD_eq_getElem?_getD, List.getElem?_set]
        by_cases e : k = j
        · subst e; rw [if_pos rfl, if_pos (by omega)]; rfl
        · rw [if_neg e]
          have := hg j (by omega)
          simpa [List.getD_eq_getElem?_getD] using this
      generalize c.getD k noNote = n at hs hn hnx
      have hck : List.drop 8 (cur.getD k []) = [] := List.drop_of_length_le (by rw [h8 k hkl]; omega)
      have h8' : ∀ j, j < c.length → ((cur.set k (eNote n)).getD j []).length = 8 := fun j hj => by
        have := h8 j hj
        simp only [List.getD_eq_getElem?_getD, List.getElem?_set] at this ⊢
        by_cases e : k = j
        · subst e; rw [if_pos rfl, if_pos (by omega)]; rfl
        · rw [if_neg e]; exact this
      have qk : k < cur.length := by omega
      repeat' (first | simp (maxSteps := 9999999) only [↓GE, PL, PP, EE, QQ, seval, hs, qk, hck, eNote, List.length_map] | (simp (disch := omega) only [IntWalk.i64_in]) | (refine go_brD (fun h => ?_) (fun h => ?_)) | (refine go_gsD (by ((try simp only [EE, QQ, seval]) <;> rfl)) (fun h => ?_) (fun h => ?_)) | (refine go_br (fun h => ?_) (fun h => ?_)) | (refine go_gs (by ((try simp only [EE, QQ, seval]) <;> rfl)) (fun h => ?_) (fun h => ?_)) | (apply go_call 5000 (Own n hn) rfl rfl; (· ((try simp only [CC, LL, NM, EE, QQ, seval]) <;> (first | rfl | ((repeat constructor); done)))); (· exact CallForm.plain rfl); (· ((try simp only [CC, LL, NM, EE, QQ, seval]) <;> (first | rfl | ((repeat constructor); done)))); (· ((try simp only [CC, LL, NM, EE, QQ, seval]) <;> (first | rfl | ((repeat constructor); done))))) | (with_reducible apply And.intro) | (with_reducible exact trivial) | omega | (simp only [List.length_map, List.length_cons, List.length_nil] at *; omega) | (show _ = true; first | rfl | kernel_rfl))
      refine ⟨⟨(k + 1, cur.set k (eNote n)), hkl, by simp [hcl], hnx, h8'⟩, ?_, by simp only; omega⟩
      (simp only [GeS]; refine ⟨?_, ?_, ?_, ?_⟩; all_goals (repeat' (first | trivial | (with_reducible rfl) | simp only [CC, LL, EE, QQ, seval] | (with_reducible apply And.intro) | rfl | (refine ⟨_, rfl, ?_⟩) | (simp [eNote]; done) | omega)))
    · have : k = c.length := by omega
      subst this
      have he : cur = c.map eNote := by
        apply List.ext_getElem (by simp [hcl])
        intro i h1 h2
        have := hg i (by omega)
        simp only [List.getD_eq_getElem?_getD, List.getElem?_eq_getElem h1, Option.getD_some] at this
        rw [this, List.getElem_map]
        simp only [List.length_map] at h2
        rw [List.getElem?_eq_getElem h2]; rfl
      subst he
      repeat' (first | simp (maxSteps := 9999999) only [↓GE, PL, PP, EE, QQ, seval] | (simp (disch := omega) only [IntWalk.i64_in]) | (refine go_brD (fun h => ?_) (fun h => ?_)) | (refine go_gsD (by ((try simp only [EE, QQ, seval]) <;> rfl)) (fun h => ?_) (fun h => ?_)) | (refine go_br (fun h => ?_) (fun h => ?_)) | (refine go_gs (by ((try simp only [EE, QQ, seval]) <;> rfl)) (fun h => ?_) (fun h => ?_)) | (with_reducible apply And.intro) | (with_reducible exact trivial) | omega | (simp only [List.length_map, List.length_cons, List.length_nil] at *; omega) | (show _ = true; first | rfl | kernel_rfl))
      all_goals ((first | apply ret_mk [some 9] | apply end_mk [some 9]); (· ((try simp only [CC, LL, EE, QQ, seval]) <;> rfl)); (· ((try simp only [CC, LL, EE, QQ, seval]) <;> repeat' (first | (with_reducible apply And.intro) | rfl | trivial | (exact ⟨_, rfl⟩) | (exact ⟨_, _, _, rfl⟩) | (simp [*, ]; done) | (simp [*, ]; omega) | (simp_all []; done) | (simp_all []; omega)))); all_goals (first | trivial | decide | ((try simp only [CC, LL, EE, QQ, seval]) <;> repeat' (first | (with_reducible apply And.intro) | (exact ⟨_, rfl, rfl, rfl⟩) | (exact ⟨_, _, _, rfl⟩) | (exact ⟨_, rfl⟩) | trivial | rfl | (simp; done)))))
end Go.Proofs.Ytejandeehmnibaa.Sim
