/- Queries of a scheme, and of a wish. -/
import Derived.Test.YtihjmnhjjpdenaaLVwG
import Derived.Test.YtihjmnhjjpdenaaLVwE3
import Derived.Test.YtihjmnhjjpdenaaLVwE4
import Derived.Test.YtihjmnhjjpdenaaLVwE5
import Derived.Test.YtihjmnhjjpdenaaLVwE6
import Derived.Test.YtihjmnhjjpdenaaLVwF3
import Derived.Test.YtihjmnhjjpdenaaLVwF4
import Derived.Test.YtihjmnhjjpdenaaLVwF5
import Derived.Test.YtihjmnhjjpdenaaLVwF6
namespace Go.Proofs.Ytihjmnhjjpdenaa.Sim
open Go
set_option maxRecDepth 100000
set_option maxHeartbeats 4000000
set_option linter.unusedVariables false
set_option linter.unusedSimpArgs false
attribute [local irreducible] Go Mean
/-- The queries to the servers: each of at most four elements. -/
def okQ (p : Int) (sv : Nat) (q : List (List Int)) : Prop := q.length = sv ∧ ∀ x ∈ q, x.length ≤ 4 ∧ inF p x
theorem q16_ok {p : Int} (hp : okP p) {rows sv ix : Nat} {l : List Int} (h1 : 1 ≤ rows) (h2 : rows ≤ 4) (h3 : 3 ≤ sv) (hl : inF p l) (h : l.length = rows * (sv - 1)) : okQ p sv (q16 p rows sv ix l) := by
  refine ⟨by rw [q16, List.length_append, outG_len]; simp only [List.length_singleton]; omega, fun x hx => ?_⟩
  rw [q16] at hx
  rcases List.mem_append.1 hx with hx | hx
  · have := outG_ok hl h (Nat.le_refl _) x hx
    exact ⟨by omega, this.2⟩
  · obtain rfl := List.mem_singleton.1 hx
    exact ⟨by rw [lastG_len]; exact h2, lastG_in hp hl h (Nat.le_refl _)⟩
theorem q17_ok {p : Int} (hp : okP p) {sv deg rows ix : Nat} (h3 : 3 ≤ sv) (h4 : sv ≤ 6) (h5 : 1 ≤ deg) (h6 : deg ≤ 2) (h1 : 1 ≤ rows) (h2 : rows ≤ 4) (hix : ix < rows) (t : List Int) (a : Nat) (ht : t.length ≤ 16384) (ha : a + rows * deg ≤ t.length) (hin : inF p t) :
    ∃ q, okQ p sv q ∧ Does Try.prog 60 [.ag [I p], .ag [I sv, I deg], I rows, I ix, vTape t a] [] (.tu [.d (dRows q), vTape t ((a + rows * deg : Nat) : Int), I 0]) [] [] := by
  have hd : inF p (t.drop a) := fun y hy => hin y (List.mem_of_mem_drop hy)
  have key : ∀ k, k < 6 → (colG p (coef17 ix deg (t.drop a)) k rows).length ≤ 4 ∧ inF p (colG p (coef17 ix deg (t.drop a)) k rows) := fun k hk => ⟨by rw [colG_len]; exact h2, colG_in hp hk (n := rows) (fun i hi => coef17_in hp hd i) (Nat.le_refl _)⟩
  obtain rfl | rfl | rfl | rfl : sv = 3 ∨ sv = 4 ∨ sv = 5 ∨ sv = 6 := by omega
  · exact ⟨_, ⟨rfl, by simp only [List.mem_cons, List.not_mem_nil, or_false]; rintro x (rfl | rfl | rfl) <;> exact key _ (by omega)⟩, queries17_3 hp deg rows ix h5 h6 h1 h2 hix t a ht ha hin⟩
  · exact ⟨_, ⟨rfl, by simp only [List.mem_cons, List.not_mem_nil, or_false]; rintro x (rfl | rfl | rfl | rfl) <;> exact key _ (by omega)⟩, queries17_4 hp deg rows ix h5 h6 h1 h2 hix t a ht ha hin⟩
  · exact ⟨_, ⟨rfl, by simp only [List.mem_cons, List.not_mem_nil, or_false]; rintro x (rfl | rfl | rfl | rfl | rfl) <;> exact key _ (by omega)⟩, queries17_5 hp deg rows ix h5 h6 h1 h2 hix t a ht ha hin⟩
  · exact ⟨_, ⟨rfl, by simp only [List.mem_cons, List.not_mem_nil, or_false]; rintro x (rfl | rfl | rfl | rfl | rfl | rfl) <;> exact key _ (by omega)⟩, queries17_6 hp deg rows ix h5 h6 h1 h2 hix t a ht ha hin⟩
theorem q18_ok {p : Int} (hp : okP p) {sv deg grp rows ix : Nat} (h3 : 3 ≤ sv) (h4 : sv ≤ 6) (h5 : 1 ≤ deg) (h6 : deg ≤ 2) (h7 : 1 ≤ grp) (h8 : grp ≤ 2) (h9 : 2 * grp + deg - 1 ≤ sv) (h1 : 1 ≤ rows) (h2 : rows ≤ 4) (hix : ix < rows) (t : List Int) (a : Nat) (ht : t.length ≤ 16384) (ha : a + rows * deg ≤ t.length) (hin : inF p t) :
    ∃ q, okQ p sv q ∧ Does Try.prog 61 [.ag [I p], .ag [I sv, I deg, I grp], I rows, I ix, vTape t a] [] (.tu [.d (dRows q), vTape t ((a + rows * deg : Nat) : Int), I 0]) [] [] := by
  have hd : inF p (t.drop a) := fun y hy => hin y (List.mem_of_mem_drop hy)
  have key : ∀ k, k < 6 → (colG p (coef18 ix grp deg (t.drop a)) k rows).length ≤ 4 ∧ inF p (colG p (coef18 ix grp deg (t.drop a)) k rows) := fun k hk => ⟨by rw [colG_len]; exact h2, colG_in hp hk (n := rows) (fun i hi => coef18_in hp hd i) (Nat.le_refl _)⟩
  obtain rfl | rfl | rfl | rfl : sv = 3 ∨ sv = 4 ∨ sv = 5 ∨ sv = 6 := by omega
  · exact ⟨_, ⟨rfl, by simp only [List.mem_cons, List.not_mem_nil, or_false]; rintro x (rfl | rfl | rfl) <;> exact key _ (by omega)⟩, queries18_3 hp deg grp rows ix h5 h6 h7 h8 h9 h1 h2 hix t a ht ha hin⟩
  · exact ⟨_, ⟨rfl, by simp only [List.mem_cons, List.not_mem_nil, or_false]; rintro x (rfl | rfl | rfl | rfl) <;> exact key _ (by omega)⟩, queries18_4 hp deg grp rows ix h5 h6 h7 h8 h9 h1 h2 hix t a ht ha hin⟩
  · exact ⟨_, ⟨rfl, by simp only [List.mem_cons, List.not_mem_nil, or_false]; rintro x (rfl | rfl | rfl | rfl | rfl) <;> exact key _ (by omega)⟩, queries18_5 hp deg grp rows ix h5 h6 h7 h8 h9 h1 h2 hix t a ht ha hin⟩
  · exact ⟨_, ⟨rfl, by simp only [List.mem_cons, List.not_mem_nil, or_false]; rintro x (rfl | rfl | rfl | rfl | rfl | rfl) <;> exact key _ (by omega)⟩, queries18_6 hp deg grp rows ix h5 h6 h7 h8 h9 h1 h2 hix t a ht ha hin⟩
theorem queries23 {s : PSch} (hs : okS s) {p : Int} (hp : okP p) (rows : Nat) (h1 : 1 ≤ rows) (h2 : rows ≤ 4) : ∃ n : Nat, n ≤ 20 ∧ Does Try.prog 44 [vSch s, .ag [I p], I rows] [] (.tu [.d (dInts (repG p n)), I 0]) [] [] ∧ ∀ (ix : Nat) (t : List Int) (a : Nat), ix < rows → t.length ≤ 16384 → a + n ≤ t.length → inF p t →
    ∃ q, okQ p s.sv.toNat q ∧ Does Try.prog 46 [vSch s, .ag [I p], I rows, I ix, vTape t a] [] (.tu [.d (dRows q), vTape t ((a + n : Nat) : Int), I 0]) [] [] := by
  obtain ⟨n, hn, hL, hne⟩ := limits23 hs hp rows h1 h2
  refine ⟨n, hn, hL, fun ix t a hix ht ha hin => ?_⟩
  have e0 := valid23 hs hp
  have e5 := plan23 s
  have e6 := storage23 s
  have q1 : decide ((rows : Int) < 1) = false := decide_eq_false (by omega)
  have q2 : decide ((rows : Int) > 1024) = false := decide_eq_false (by omega)
  have q3 : decide ((ix : Int) < 0) = false := decide_eq_false (by omega)
  have q4 : decide ((ix : Int) ≥ (rows : Int)) = false := decide_eq_false (by omega)
  obtain ⟨sv, h3, h4, rfl | ⟨deg, h5, h6, rfl⟩ | ⟨deg, grp, h5, h6, h7, h8, h9, rfl⟩⟩ := hs.cases
  · have hne' : n = rows * (sv - 1) := hne
    subst hne'
    have hlen : ((t.drop a).take (rows * (sv - 1))).length = rows * (sv - 1) := by rw [List.length_take, List.length_drop]; exact Nat.min_eq_left (Nat.le_sub_of_add_le (by rw [Nat.add_comm]; exact ha))
    refine ⟨q16 p rows sv ix ((t.drop a).take (rows * (sv - 1))), q16_ok hp h1 h2 h3 (fun y hy => hin y (List.mem_of_mem_drop (List.mem_of_mem_take hy))) hlen, ?_⟩
    refine go_ref23_Queries rfl BxOK.nil fun cx hm0 => go_in 5000 ?_
    unfold ac_ref23_Queries rs_ref23_Queries
    have e1 := queries16 hp rows sv ix h1 h2 h3 h4 hix t a ht ha hin
    repeat' (first | simp (maxSteps := 9999999) only [↓GE, PL, PP, EE, QQ, seval, q1, q2, q3, q4] | (simp (disch := omega) only [IntWalk.i64_in]) | (refine go_brD (fun h => ?_) (fun h => ?_)) | (refine go_gsD (by ((try simp only [EE, QQ, seval]) <;> rfl)) (fun h => ?_) (fun h => ?_)) | (refine go_br (fun h => ?_) (fun h => ?_)) | (refine go_gs (by ((try simp only [EE, QQ, seval]) <;> rfl)) (fun h => ?_) (fun h => ?_)) | (apply go_call 5000 (e0) rfl rfl; (· ((try simp only [CC, LL, NM, EE, QQ, seval]) <;> (first | rfl | ((repeat constructor); done)))); (· exact CallForm.plain rfl); (· ((try simp only [CC, LL, NM, EE, QQ, seval]) <;> (first | rfl | ((repeat constructor); done)))); (· ((try simp only [CC, LL, NM, EE, QQ, seval]) <;> (first | rfl | ((repeat constructor); done))))) | (apply go_call 5000 (e1) rfl rfl; (· ((try simp only [CC, LL, NM, EE, QQ, seval]) <;> (first | rfl | ((repeat constructor); done)))); (· exact CallForm.plain rfl); (· ((try simp only [CC, LL, NM, EE, QQ, seval]) <;> (first | rfl | ((repeat constructor); done)))); (· ((try simp only [CC, LL, NM, EE, QQ, seval]) <;> (first | rfl | ((repeat constructor); done))))) | (with_reducible apply And.intro) | (with_reducible exact trivial) | omega | (simp only [List.length_map, List.length_cons, List.length_nil] at *; omega) | (show _ = true; first | rfl | kernel_rfl))
    all_goals ((first | apply ret_mk [] | apply end_mk []); (· ((try simp only [CC, LL, EE, QQ, seval]) <;> rfl)); (· ((try simp only [CC, LL, EE, QQ, seval]) <;> repeat' (first | (with_reducible apply And.intro) | rfl | trivial | (exact ⟨_, rfl⟩) | (exact ⟨_, _, _, rfl⟩) | (simp [*, ]; done) | (simp [*, ]; omega) | (simp_all []; done) | (simp_all []; omega)))); all_goals (first | trivial | decide | ((try simp only [CC, LL, EE, QQ, seval]) <;> repeat' (first | (with_reducible apply And.intro) | (exact ⟨_, rfl, rfl, rfl⟩) | (exact ⟨_, _, _, rfl⟩) | (exact ⟨_, rfl⟩) | trivial | rfl | (simp; done)))))
  · have hne' : n = rows * deg := hne
    subst hne'
    obtain ⟨q, hq, e1⟩ := q17_ok hp h3 h4 h5 h6 h1 h2 hix t a ht ha hin
    refine ⟨q, hq, ?_⟩
    refine go_ref23_Queries rfl BxOK.nil fun cx hm0 => go_in 5000 ?_
    unfold ac_ref23_Queries rs_ref23_Queries
    repeat' (first | simp (maxSteps := 9999999) only [↓GE, PL, PP, EE, QQ, seval, q1, q2, q3, q4] | (simp (disch := omega) only [IntWalk.i64_in]) | (refine go_brD (fun h => ?_) (fun h => ?_)) | (refine go_gsD (by ((try simp only [EE, QQ, seval]) <;> rfl)) (fun h => ?_) (fun h => ?_)) | (refine go_br (fun h => ?_) (fun h => ?_)) | (refine go_gs (by ((try simp only [EE, QQ, seval]) <;> rfl)) (fun h => ?_) (fun h => ?_)) | (apply go_call 5000 (e0) rfl rfl; (· ((try simp only [CC, LL, NM, EE, QQ, seval]) <;> (first | rfl | ((repeat constructor); done)))); (· exact CallForm.plain rfl); (· ((try simp only [CC, LL, NM, EE, QQ, seval]) <;> (first | rfl | ((repeat constructor); done)))); (· ((try simp only [CC, LL, NM, EE, QQ, seval]) <;> (first | rfl | ((repeat constructor); done))))) | (apply go_call 5000 (e1) rfl rfl; (· ((try simp only [CC, LL, NM, EE, QQ, seval]) <;> (first | rfl | ((repeat constructor); done)))); (· exact CallForm.plain rfl); (· ((try simp only [CC, LL, NM, EE, QQ, seval]) <;> (first | rfl | ((repeat constructor); done)))); (· ((try simp only [CC, LL, NM, EE, QQ, seval]) <;> (first | rfl | ((repeat constructor); done))))) | (apply go_call 5000 (e5) rfl rfl; (· ((try simp only [CC, LL, NM, EE, QQ, seval]) <;> (first | rfl | ((repeat constructor); done)))); (· exact CallForm.plain rfl); (· ((try simp only [CC, LL, NM, EE, QQ, seval]) <;> (first | rfl | ((repeat constructor); done)))); (· ((try simp only [CC, LL, NM, EE, QQ, seval]) <;> (first | rfl | ((repeat constructor); done))))) | (with_reducible apply And.intro) | (with_reducible exact trivial) | omega | (simp only [List.length_map, List.length_cons, List.length_nil] at *; omega) | (show _ = true; first | rfl | kernel_rfl))
    all_goals ((first | apply ret_mk [] | apply end_mk []); (· ((try simp only [CC, LL, EE, QQ, seval]) <;> rfl)); (· ((try simp only [CC, LL, EE, QQ, seval]) <;> repeat' (first | (with_reducible apply And.intro) | rfl | trivial | (exact ⟨_, rfl⟩) | (exact ⟨_, _, _, rfl⟩) | (simp [*, ]; done) | (simp [*, ]; omega) | (simp_all []; done) | (simp_all []; omega)))); all_goals (first | trivial | decide | ((try simp only [CC, LL, EE, QQ, seval]) <;> repeat' (first | (with_reducible apply And.intro) | (exact ⟨_, rfl, rfl, rfl⟩) | (exact ⟨_, _, _, rfl⟩) | (exact ⟨_, rfl⟩) | trivial | rfl | (simp; done)))))
  · have hne' : n = (rows + grp - 1) / grp * deg := hne
    subst hne'
    obtain ⟨hu1, hu2, hu3⟩ := units_in h7 h8 h1 h2
    have e7 := units23 sv deg grp rows hs h7 h8 h1 h2
    obtain ⟨q, hq, e1⟩ := q18_ok hp h3 h4 h5 h6 h7 h8 h9 hu1 hu2 (hu3 ix hix) t a ht ha hin
    refine ⟨q, hq, ?_⟩
    refine go_ref23_Queries rfl BxOK.nil fun cx hm0 => go_in 5000 ?_
    unfold ac_ref23_Queries rs_ref23_Queries
    have w2 : (ix : Int).tdiv (grp : Int) = ((ix / grp : Nat) : Int) := rfl
    have hd := Nat.div_le_self ix grp
    generalize (rows + grp - 1) / grp = u at *
    generalize ix / grp = ig at *
    have w3 : IntKind.i64.wrap (ig : Int) = ig := IntWalk.i64_in _ (by omega)
    have hz : (grp : Int) ≠ 0 := by omega
    repeat' (first | simp (maxSteps := 9999999) only [↓GE, PL, PP, EE, QQ, seval, q1, q2, q3, q4, w2, w3, hz] | (simp (disch := omega) only [IntWalk.i64_in]) | (refine go_brD (fun h => ?_) (fun h => ?_)) | (refine go_gsD (by ((try simp only [EE, QQ, seval]) <;> rfl)) (fun h => ?_) (fun h => ?_)) | (refine go_br (fun h => ?_) (fun h => ?_)) | (refine go_gs (by ((try simp only [EE, QQ, seval]) <;> rfl)) (fun h => ?_) (fun h => ?_)) | (apply go_call 5000 (e0) rfl rfl; (· ((try simp only [CC, LL, NM, EE, QQ, seval]) <;> (first | rfl | ((repeat constructor); done)))); (· exact CallForm.plain rfl); (· ((try simp only [CC, LL, NM, EE, QQ, seval]) <;> (first | rfl | ((repeat constructor); done)))); (· ((try simp only [CC, LL, NM, EE, QQ, seval]) <;> (first | rfl | ((repeat constructor); done))))) | (apply go_call 5000 (e1) rfl rfl; (· ((try simp only [CC, LL, NM, EE, QQ, seval]) <;> (first | rfl | ((repeat constructor); done)))); (· exact CallForm.plain rfl); (· ((try simp only [CC, LL, NM, EE, QQ, seval]) <;> (first | rfl | ((repeat constructor); done)))); (· ((try simp only [CC, LL, NM, EE, QQ, seval]) <;> (first | rfl | ((repeat constructor); done))))) | (apply go_call 5000 (e6) rfl rfl; (· ((try simp only [CC, LL, NM, EE, QQ, seval]) <;> (first | rfl | ((repeat constructor); done)))); (· exact CallForm.plain rfl); (· ((try simp only [CC, LL, NM, EE, QQ, seval]) <;> (first | rfl | ((repeat constructor); done)))); (· ((try simp only [CC, LL, NM, EE, QQ, seval]) <;> (first | rfl | ((repeat constructor); done))))) | (apply go_call 5000 (e7) rfl rfl; (· ((try simp only [CC, LL, NM, EE, QQ, seval]) <;> (first | rfl | ((repeat constructor); done)))); (· exact CallForm.plain rfl); (· ((try simp only [CC, LL, NM, EE, QQ, seval]) <;> (first | rfl | ((repeat constructor); done)))); (· ((try simp only [CC, LL, NM, EE, QQ, seval]) <;> (first | rfl | ((repeat constructor); done))))) | (with_reducible apply And.intro) | (with_reducible exact trivial) | omega | (simp only [List.length_map, List.length_cons, List.length_nil] at *; omega) | (show _ = true; first | rfl | kernel_rfl))
    all_goals ((first | apply ret_mk [] | apply end_mk []); (· ((try simp only [CC, LL, EE, QQ, seval]) <;> rfl)); (· ((try simp only [CC, LL, EE, QQ, seval]) <;> repeat' (first | (with_reducible apply And.intro) | rfl | trivial | (exact ⟨_, rfl⟩) | (exact ⟨_, _, _, rfl⟩) | (simp [*, ]; done) | (simp [*, ]; omega) | (simp_all []; done) | (simp_all []; omega)))); all_goals (first | trivial | decide | ((try simp only [CC, LL, EE, QQ, seval]) <;> repeat' (first | (with_reducible apply And.intro) | (exact ⟨_, rfl, rfl, rfl⟩) | (exact ⟨_, _, _, rfl⟩) | (exact ⟨_, rfl⟩) | trivial | rfl | (simp; done)))))
end Go.Proofs.Ytihjmnhjjpdenaa.Sim
