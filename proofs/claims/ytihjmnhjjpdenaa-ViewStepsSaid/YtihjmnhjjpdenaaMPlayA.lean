/- Dice. -/
import Derived.Test.YtihjmnhjjpdenaaMLibI
namespace Go.Proofs.Ytihjmnhjjpdenaa.Sim
open Go
set_option maxRecDepth 100000
set_option maxHeartbeats 4000000
set_option linter.unusedVariables false
set_option linter.unusedSimpArgs false
attribute [local irreducible] Go Mean
def eB (x : UInt8) : List D := [.at (.int .u8 x.toNat)]
abbrev dBytes (l : List UInt8) : D := .sl 1 (l.map eB)
/-- Dice, behind a pointer. -/
abbrev dc (l : List UInt8) (k : Nat) : U := [(900000, .box 0 [.d (dBytes l), I k])]
abbrev dcp : V := .bp 900000 0 0
def pickV (l : List UInt8) (k : Nat) (n : Int) : Int := if l.length ≤ k then 0 else ((l.getD k 0).toNat : Int).tmod n
def pickK (l : List UInt8) (k : Nat) : Nat := if l.length ≤ k then k else k + 1
theorem pickV_in (l : List UInt8) (k : Nat) (n : Int) (hn : 1 ≤ n) : 0 ≤ pickV l k n ∧ pickV l k n < n := by
  unfold pickV
  split
  · omega
  · rw [Int.tmod_eq_emod_of_nonneg (by omega)]
    exact ⟨Int.emod_nonneg _ (by omega), Int.emod_lt_of_pos _ (by omega)⟩
theorem dice (l : List UInt8) (hl : l.length ≤ 140737488355328) : Does Try.prog 7 [.d (dBytes l)] [] (.bp 1000000 0 0) [] [.box 0 [.d (dBytes (l.take 300)), I 0]] := by
  refine go_play_New rfl BxOK.nil fun cx hm0 => go_in 5000 ?_
  unfold ac_play_New rs_play_New
  by_cases h : l.length ≤ 300
  · have q : decide ((l.length : Int) > 300) = false := decide_eq_false (by omega)
    rw [List.take_of_length_le h]
    repeat' (first | simp (maxSteps := 9999999) only [↓GE, PL, PP, EE, QQ, seval, q, List.length_map] | (simp (disch := omega) only [IntWalk.i64_in]) | (refine go_brD (fun h => ?_) (fun h => ?_)) | (refine go_gsD (by ((try simp only [EE, QQ, seval]) <;> rfl)) (fun h => ?_) (fun h => ?_)) | (refine go_br (fun h => ?_) (fun h => ?_)) | (refine go_gs (by ((try simp only [EE, QQ, seval]) <;> rfl)) (fun h => ?_) (fun h => ?_)) | (with_reducible apply And.intro) | (with_reducible exact trivial) | omega | (simp only [List.length_map, List.length_cons, List.length_nil] at *; omega) | (show _ = true; first | rfl | kernel_rfl))
    all_goals ((first | apply ret_mk [some 10] | apply end_mk [some 10]); (· ((try simp only [CC, LL, EE, QQ, seval]) <;> rfl)); (· ((try simp only [CC, LL, EE, QQ, seval]) <;> repeat' (first | (with_reducible apply And.intro) | rfl | trivial | (exact ⟨_, rfl⟩) | (exact ⟨_, _, _, rfl⟩) | (simp [*, ]; done) | (simp [*, ]; omega) | (simp_all []; done) | (simp_all []; omega)))); all_goals (first | trivial | decide | ((try simp only [CC, LL, EE, QQ, seval]) <;> repeat' (first | (with_reducible apply And.intro) | (exact ⟨_, rfl, rfl, rfl⟩) | (exact ⟨_, _, _, rfl⟩) | (exact ⟨_, rfl⟩) | trivial | rfl | (simp; done)))))
  · have q : decide ((l.length : Int) > 300) = true := decide_eq_true (by omega)
    have hm : (l.map eB).take 300 = (l.take 300).map eB := List.map_take.symm
    repeat' (first | simp (maxSteps := 9999999) only [↓GE, PL, PP, EE, QQ, seval, q, hm, List.length_map] | (simp (disch := omega) only [IntWalk.i64_in]) | (refine go_brD (fun h => ?_) (fun h => ?_)) | (refine go_gsD (by ((try simp only [EE, QQ, seval]) <;> rfl)) (fun h => ?_) (fun h => ?_)) | (refine go_br (fun h => ?_) (fun h => ?_)) | (refine go_gs (by ((try simp only [EE, QQ, seval]) <;> rfl)) (fun h => ?_) (fun h => ?_)) | (with_reducible apply And.intro) | (with_reducible exact trivial) | omega | (simp only [List.length_map, List.length_cons, List.length_nil] at *; omega) | (show _ = true; first | rfl | kernel_rfl))
    all_goals ((first | apply ret_mk [some 10] | apply end_mk [some 10]); (· ((try simp only [CC, LL, EE, QQ, seval]) <;> rfl)); (· ((try simp only [CC, LL, EE, QQ, seval]) <;> repeat' (first | (with_reducible apply And.intro) | rfl | trivial | (exact ⟨_, rfl⟩) | (exact ⟨_, _, _, rfl⟩) | (simp [*, ]; done) | (simp [*, ]; omega) | (simp_all []; done) | (simp_all []; omega)))); all_goals (first | trivial | decide | ((try simp only [CC, LL, EE, QQ, seval]) <;> repeat' (first | (with_reducible apply And.intro) | (exact ⟨_, rfl, rfl, rfl⟩) | (exact ⟨_, _, _, rfl⟩) | (exact ⟨_, rfl⟩) | trivial | rfl | (simp; done)))))
theorem pick (l : List UInt8) (hl : l.length ≤ 140737488355328) (k : Nat) (n : Int) (hn : 1 ≤ n) : Does Try.prog 9 [dcp, I n] (dc l k) (I (pickV l k n)) (dc l (pickK l k)) [] := by
  refine go_play_Dice_Pick rfl BxOK.one fun cx hm0 => go_in 5000 ?_
  unfold ac_play_Dice_Pick rs_play_Dice_Pick
  by_cases h : l.length ≤ k
  · have q : decide ((k : Int) ≥ (l.length : Int)) = true := decide_eq_true (by omega)
    rw [pickV, pickK, if_pos h, if_pos h]
    repeat' (first | simp (maxSteps := 9999999) only [↓GE, PL, PP, EE, QQ, seval, q, List.length_map] | (simp (disch := omega) only [IntWalk.i64_in]) | (refine go_brD (fun h => ?_) (fun h => ?_)) | (refine go_gsD (by ((try simp only [EE, QQ, seval]) <;> rfl)) (fun h => ?_) (fun h => ?_)) | (refine go_br (fun h => ?_) (fun h => ?_)) | (refine go_gs (by ((try simp only [EE, QQ, seval]) <;> rfl)) (fun h => ?_) (fun h => ?_)) | (with_reducible apply And.intro) | (with_reducible exact trivial) | omega | (simp only [List.length_map, List.length_cons, List.length_nil] at *; omega) | (show _ = true; first | rfl | kernel_rfl))
    all_goals ((first | apply ret_mk [] | apply end_mk []); (· ((try simp only [CC, LL, EE, QQ, seval]) <;> rfl)); (· ((try simp only [CC, LL, EE, QQ, seval]) <;> repeat' (first | (with_reducible apply And.intro) | rfl | trivial | (exact ⟨_, rfl⟩) | (exact ⟨_, _, _, rfl⟩) | (simp [*, ]; done) | (simp [*, ]; omega) | (simp_all []; done) | (simp_all []; omega)))); all_goals (first | trivial | decide | ((try simp only [CC, LL, EE, QQ, seval]) <;> repeat' (first | (with_reducible apply And.intro) | (exact ⟨_, rfl, rfl, rfl⟩) | (exact ⟨_, _, _, rfl⟩) | (exact ⟨_, rfl⟩) | trivial | rfl | (simp; done)))))
  · have q : decide ((k : Int) ≥ (l.length : Int)) = false := decide_eq_false (by omega)
    have hs := getD_map eB [] 0 l k (by omega)
    rw [pickV, pickK, if_neg h, if_neg h]
    generalize l.getD k 0 = x at hs
    have hx := x.toNat_lt
    have w1 : IntKind.i64.wrap (x.toNat : Int) = x.toNat := IntWalk.i64_in _ (by omega)
    have w2 : IntKind.i64.wrap ((k : Int) + 1) = (k : Int) + 1 := IntWalk.i64_in _ (by omega)
    have w3 : IntKind.i64.wrap ((k : Int) + 1 - 1) = k := by rw [show (k : Int) + 1 - 1 = k by omega]; exact IntWalk.i64_in _ (by omega)
    repeat' (first | simp (maxSteps := 9999999) only [↓GE, PL, PP, EE, QQ, seval, q, hs, eB, w1, w2, w3, List.length_map] | (simp (disch := omega) only [IntWalk.i64_in]) | (refine go_brD (fun h => ?_) (fun h => ?_)) | (refine go_gsD (by ((try simp only [EE, QQ, seval]) <;> rfl)) (fun h => ?_) (fun h => ?_)) | (refine go_br (fun h => ?_) (fun h => ?_)) | (refine go_gs (by ((try simp only [EE, QQ, seval]) <;> rfl)) (fun h => ?_) (fun h => ?_)) | (with_reducible apply And.intro) | (with_reducible exact trivial) | omega | (simp only [List.length_map, List.length_cons, List.length_nil] at *; omega) | (show _ = true; first | rfl | kernel_rfl))
    all_goals ((first | apply ret_mk [] | apply end_mk []); (· ((try simp only [CC, LL, EE, QQ, seval]) <;> rfl)); (· ((try simp only [CC, LL, EE, QQ, seval]) <;> repeat' (first | (with_reducible apply And.intro) | rfl | trivial | (exact ⟨_, rfl⟩) | (exact ⟨_, _, _, rfl⟩) | (simp [*, ]; done) | (simp [*, ]; omega) | (simp_all []; done) | (simp_all []; omega)))); all_goals (first | trivial | decide | ((try simp only [CC, LL, EE, QQ, seval]) <;> repeat' (first | (with_reducible apply And.intro) | (exact ⟨_, rfl, rfl, rfl⟩) | (exact ⟨_, _, _, rfl⟩) | (exact ⟨_, rfl⟩) | trivial | rfl | (simp; done)))))
/-- Elements, and where the dice stand then. -/
def elmG (l : List UInt8) (p : Int) (k : Nat) : Nat → List Int × Nat
  | 0 => ([], k)
  | n + 1 => ((elmG l p k n).1 ++ [(pickV l (elmG l p k n).2 256 + pickV l (pickK l (elmG l p k n).2) 2 * 128).tmod p], pickK l (pickK l (elmG l p k n).2))
theorem elmG_len {l : List UInt8} {p : Int} {k : Nat} : ∀ {n : Nat}, (elmG l p k n).1.length = n
  | 0 => rfl
  | n + 1 => by rw [elmG]; simp [elmG_len]
theorem elmG_in {l : List UInt8} {p : Int} {k : Nat} (hp : 1 ≤ p) : ∀ {n : Nat}, ∀ x ∈ (elmG l p k n).1, 0 ≤ x ∧ x < p
  | 0, x, h => by cases h
  | n + 1, x, h => by
    rw [elmG] at h
    rcases List.mem_append.1 h with h | h
    · exact elmG_in hp x h
    · simp only [List.mem_singleton] at h
      subst h
      have h1 := pickV_in l (elmG l p k n).2 256 (by omega)
      have h2 := pickV_in l (pickK l (elmG l p k n).2) 2 (by omega)
      rw [Int.tmod_eq_emod_of_nonneg (by omega)]
      exact ⟨Int.emod_nonneg _ (by omega), Int.emod_lt_of_pos _ (by omega)⟩
end Go.Proofs.Ytihjmnhjjpdenaa.Sim
