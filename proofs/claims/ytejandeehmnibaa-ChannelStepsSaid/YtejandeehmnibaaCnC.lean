/- Notes that are made; ChannelSends, walked. -/
import Derived.Test.YtejandeehmnibaaCnB
import Derived.Test.YtejandeehmnibaaSane
namespace Go.Proofs.Ytejandeehmnibaa.Sim
open Go Go.RowKit Go.Deep
set_option maxRecDepth 100000
set_option maxHeartbeats 8000000
set_option linter.unusedVariables false
set_option linter.unusedSimpArgs false
attribute [local irreducible] Go Mean
/-- A call that changes nothing and returns true. -/
theorem does_true {P : Program} {f : FuncId} (h : ∀ w : World, Calls P f #[] w fun e w' => e = .returned (.bool true) ∧ Below w.heap.size w w') : Does P f [] [] (B true) [] [] := by
  intro w hd S X us hm hv
  simp only [VRs] at hv
  subst hv
  refine (h w).mono ?_
  rintro e w' ⟨rfl, hb⟩
  refine ⟨_, hd, S, rfl, ⟨hb.os, hb.tape, hb.output, hb.size, fun k hk _ => hb.block k hk⟩, ⟨fun i o h => by simp [ups, fresh] at h, fun i j oi oj b _ h => by simp [ups, fresh] at h, fun b hb' => Nat.lt_of_lt_of_le (hm.lt b hb') hb.size, hb.size, hm.sX⟩, by simp [B, VR, D.is, Value.oneCell'], fun b h => .inl h, Le.refl _ _⟩
theorem sane31 : Does Try.prog 5 [] [] (B true) [] [] := does_true fun w => (sane_any w).mono fun e w' h => h
def noteG (l : List UInt8) (k : Nat) : PNote × Nat :=
  let k1 := pickK l k
  let k2 := pickK l k1
  let k3 := pickK l k2
  let k4 := pickK l k3
  let k5 := pickK l k4
  let k6 := pickK l k5
  let q := elmG l 7 k6 (pickV l k5 4).toNat
  let r := if pickV l k 2 = 1 then elmG l 7 (pickK l q.2) (pickV l q.2 3).toNat else ([], q.2)
  (⟨1 + pickV l k 2, pickV l k1 3, pickV l k2 2, 1 + pickV l k3 3, 1 + pickV l k4 2, q.1, r.1, 0⟩, r.2)
theorem noteG_ok (l : List UInt8) (k : Nat) : okN (noteG l k).1 := by
  have h1 := pickV_in l (pickK l (pickK l (pickK l (pickK l (pickK l k))))) 4 (by omega)
  simp only [noteG]
  refine ⟨by simp only [elmG_len]; omega, ?_⟩
  simp only
  split
  · have h2 := pickV_in l (elmG l 7 (pickK l (pickK l (pickK l (pickK l (pickK l (pickK l k)))))) (pickV l (pickK l (pickK l (pickK l (pickK l (pickK l k))))) 4).toNat).2 3 (by omega)
    simp only [elmG_len]; omega
  · simp
theorem dnote (l : List UInt8) (hl : l.length ≤ 140737488355328) (k : Nat) : Does Try.prog 24 [dcp] (dc l k) (vNote (noteG l k).1) (dc l (noteG l k).2) [] := by
  refine go_play_Dice_Note rfl BxOK.one fun cx hm0 => go_in 5000 ?_
  unfold ac_play_Dice_Note rs_play_Dice_Note
  have e0 := pick l hl k 2 (by omega)
  have e1 := pick l hl (pickK l k) 3 (by omega)
  have e2 := pick l hl (pickK l (pickK l k)) 2 (by omega)
  have e3 := pick l hl (pickK l (pickK l (pickK l k))) 3 (by omega)
  have e4 := pick l hl (pickK l (pickK l (pickK l (pickK l k)))) 2 (by omega)
  have e5 := pick l hl (pickK l (pickK l (pickK l (pickK l (pickK l k))))) 4 (by omega)
  have a0 := pickV_in l k 2 (by omega)
  have a1 := pickV_in l (pickK l k) 3 (by omega)
  have a2 := pickV_in l (pickK l (pickK l k)) 2 (by omega)
  have a3 := pickV_in l (pickK l (pickK l (pickK l k))) 3 (by omega)
  have a4 := pickV_in l (pickK l (pickK l (pickK l (pickK l k)))) 2 (by omega)
  have a5 := pickV_in l (pickK l (pickK l (pickK l (pickK l (pickK l k))))) 4 (by omega)
  simp only [noteG]
  generalize pickV l k 2 = v0 at *
  generalize pickV l (pickK l k) 3 = v1 at *
  generalize pickV l (pickK l (pickK l k)) 2 = v2 at *
  generalize pickV l (pickK l (pickK l (pickK l k))) 3 = v3 at *
  generalize pickV l (pickK l (pickK l (pickK l (pickK l k)))) 2 = v4 at *
  obtain ⟨m, hm⟩ : ∃ m : Nat, pickV l (pickK l (pickK l (pickK l (pickK l (pickK l k))))) 4 = (m : Int) := ⟨(pickV l (pickK l (pickK l (pickK l (pickK l (pickK l k))))) 4).toNat, by omega⟩
  rw [hm] at e5 a5 ⊢
  rw [Int.toNat_natCast]
  generalize pickK l k = k1 at *
  generalize pickK l k1 = k2 at *
  generalize pickK l k2 = k3 at *
  generalize pickK l k3 = k4 at *
  generalize pickK l k4 = k5 at *
  generalize pickK l k5 = k6 at *
  have e6 := delements l hl k6 7 (by omega) m (by omega)
  generalize elmG l 7 k6 m = q at *
  have w0 : IntKind.i64.wrap (1 + v0) = 1 + v0 := IntWalk.i64_in _ (by omega)
  have w3 : IntKind.i64.wrap (1 + v3) = 1 + v3 := IntWalk.i64_in _ (by omega)
  have w4 : IntKind.i64.wrap (1 + v4) = 1 + v4 := IntWalk.i64_in _ (by omega)
  by_cases h : v0 = 1
  · have z : ((1 : Int) + v0 == 2) = true := by rw [beq_iff_eq]; omega
    rw [if_pos h]
    have e7 := pick l hl q.2 3 (by omega)
    have a7 := pickV_in l q.2 3 (by omega)
    obtain ⟨j, hj⟩ : ∃ j : Nat, pickV l q.2 3 = (j : Int) := ⟨(pickV l q.2 3).toNat, by omega⟩
    rw [hj] at e7 a7 ⊢
    rw [Int.toNat_natCast]
    generalize pickK l q.2 = k7 at *
    have e8 := delements l hl k7 7 (by omega) j (by omega)
    repeat' (first | simp (maxSteps := 9999999) only [↓GE, PL, PP, EE, QQ, seval, w0, w3, w4, z] | (simp (disch := omega) only [IntWalk.i64_in]) | (refine go_brD (fun h => ?_) (fun h => ?_)) | (refine go_gsD (by ((try simp only [EE, QQ, seval]) <;> rfl)) (fun h => ?_) (fun h => ?_)) | (refine go_br (fun h => ?_) (fun h => ?_)) | (refine go_gs (by ((try simp only [EE, QQ, seval]) <;> rfl)) (fun h => ?_) (fun h => ?_)) | (apply go_call 5000 (e0) rfl rfl; (· ((try simp only [CC, LL, NM, EE, QQ, seval]) <;> (first | rfl | ((repeat constructor); done)))); (· exact CallForm.lent (by (try simp only [CC, LL, NM, EE, QQ, seval]); repeat' (first | trivial | (with_reducible rfl) | omega | (with_reducible apply And.intro) | rfl)) rfl rfl); (· ((try simp only [CC, LL, NM, EE, QQ, seval]) <;> (first | rfl | ((repeat constructor); done)))); (· ((try simp only [CC, LL, NM, EE, QQ, seval]) <;> (first | rfl | ((repeat constructor); done))))) | (apply go_call 5000 (e1) rfl rfl; (· ((try simp only [CC, LL, NM, EE, QQ, seval]) <;> (first | rfl | ((repeat constructor); done)))); (· exact CallForm.lent (by (try simp only [CC, LL, NM, EE, QQ, seval]); repeat' (first | trivial | (with_reducible rfl) | omega | (with_reducible apply And.intro) | rfl)) rfl rfl); (· ((try simp only [CC, LL, NM, EE, QQ, seval]) <;> (first | rfl | ((repeat constructor); done)))); (· ((try simp only [CC, LL, NM, EE, QQ, seval]) <;> (first | rfl | ((repeat constructor); done))))) | (apply go_call 5000 (e2) rfl rfl; (· ((try simp only [CC, LL, NM, EE, QQ, seval]) <;> (first | rfl | ((repeat constructor); done)))); (· exact CallForm.lent (by (try simp only [CC, LL, NM, EE, QQ, seval]); repeat' (first | trivial | (with_reducible rfl) | omega | (with_reducible apply And.intro) | rfl)) rfl rfl); (· ((try simp only [CC, LL, NM, EE, QQ, seval]) <;> (first | rfl | ((repeat constructor); done)))); (· ((try simp only [CC, LL, NM, EE, QQ, seval]) <;> (first | rfl | ((repeat constructor); done))))) | (apply go_call 5000 (e3) rfl rfl; (· ((try simp only [CC, LL, NM, EE, QQ, seval]) <;> (first | rfl | ((repeat constructor); done)))); (· exact CallForm.lent (by (try simp only [CC, LL, NM, EE, QQ, seval]); repeat' (first | trivial | (with_reducible rfl) | omega | (with_reducible apply And.intro) | rfl)) rfl rfl); (· ((try simp only [CC, LL, NM, EE, QQ, seval]) <;> (first | rfl | ((repeat constructor); done)))); (· ((try simp only [CC, LL, NM, EE, QQ, seval]) <;> (first | rfl | ((repeat constructor); done))))) | (apply go_call 5000 (e4) rfl rfl; (· ((try simp only [CC, LL, NM, EE, QQ, seval]) <;> (first | rfl | ((repeat constructor); done)))); (· exact CallForm.lent (by (try simp only [CC, LL, NM, EE, QQ, seval]); repeat' (first | trivial | (with_reducible rfl) | omega | (with_reducible apply And.intro) | rfl)) rfl rfl); (· ((try simp only [CC, LL, NM, EE, QQ, seval]) <;> (first | rfl | ((repeat constructor); done)))); (· ((try simp only [CC, LL, NM, EE, QQ, seval]) <;> (first | rfl | ((repeat constructor); done))))) | (apply go_call 5000 (e5) rfl rfl; (· ((try simp only [CC, LL, NM, EE, QQ, seval]) <;> (first | rfl | ((repeat constructor); done)))); (· exact CallForm.lent (by (try simp only [CC, LL, NM, EE, QQ, seval]); repeat' (first | trivial | (with_reducible rfl) | omega | (with_reducible apply And.intro) | rfl)) rfl rfl); (· ((try simp only [CC, LL, NM, EE, QQ, seval]) <;> (first | rfl | ((repeat constructor); done)))); (· ((try simp only [CC, LL, NM, EE, QQ, seval]) <;> (first | rfl | ((repeat constructor); done))))) | (apply go_call 5000 (e6) rfl rfl; (· ((try simp only [CC, LL, NM, EE, QQ, seval]) <;> (first | rfl | ((repeat constructor); done)))); (· exact CallForm.lent (by (try simp only [CC, LL, NM, EE, QQ, seval]); repeat' (first | trivial | (with_reducible rfl) | omega | (with_reducible apply And.intro) | rfl)) rfl rfl); (· ((try simp only [CC, LL, NM, EE, QQ, seval]) <;> (first | rfl | ((repeat constructor); done)))); (· ((try simp only [CC, LL, NM, EE, QQ, seval]) <;> (first | rfl | ((repeat constructor); done))))) | (apply go_call 5000 (e7) rfl rfl; (· ((try simp only [CC, LL, NM, EE, QQ, seval]) <;> (first | rfl | ((repeat constructor); done)))); (· exact CallForm.lent (by (try simp only [CC, LL, NM, EE, QQ, seval]); repeat' (first | trivial | (with_reducible rfl) | omega | (with_reducible apply And.intro) | rfl)) rfl rfl); (· ((try simp only [CC, LL, NM, EE, QQ, seval]) <;> (first | rfl | ((repeat constructor); done)))); (· ((try simp only [CC, LL, NM, EE, QQ, seval]) <;> (first | rfl | ((repeat constructor); done))))) | (apply go_call 5000 (e8) rfl rfl; (· ((try simp only [CC, LL, NM, EE, QQ, seval]) <;> (first | rfl | ((repeat constructor); done)))); (· exact CallForm.lent (by (try simp only [CC, LL, NM, EE, QQ, seval]); repeat' (first | trivial | (with_reducible rfl) | omega | (with_reducible apply And.intro) | rfl)) rfl rfl); (· ((try simp only [CC, LL, NM, EE, QQ, seval]) <;> (first | rfl | ((repeat constructor); done)))); (· ((try simp only [CC, LL, NM, EE, QQ, seval]) <;> (first | rfl | ((repeat constructor); done))))) | (with_reducible apply And.intro) | (with_reducible exact trivial) | omega | (simp only [List.length_map, List.length_cons, List.length_nil] at *; omega) | (show _ = true; first | rfl | kernel_rfl))
    all_goals ((first | apply ret_mk [] | apply end_mk []); (· ((try simp only [CC, LL, EE, QQ, seval]) <;> rfl)); (· ((try simp only [CC, LL, EE, QQ, seval]) <;> repeat' (first | (with_reducible apply And.intro) | rfl | trivial | (exact ⟨_, rfl⟩) | (exact ⟨_, _, _, rfl⟩) | (simp [*, ]; done) | (simp [*, ]; omega) | (simp_all []; done) | (simp_all []; omega)))); all_goals (first | trivial | decide | ((try simp only [CC, LL, EE, QQ, seval]) <;> repeat' (first | (with_reducible apply And.intro) | (exact ⟨_, rfl, rfl, rfl⟩) | (exact ⟨_, _, _, rfl⟩) | (exact ⟨_, rfl⟩) | trivial | rfl | (simp; done)))))
  · have z : ((1 : Int) + v0 == 2) = false := by rw [beq_eq_false_iff_ne]; omega
    rw [if_neg h]
    repeat' (first | simp (maxSteps := 9999999) only [↓GE, PL, PP, EE, QQ, seval, w0, w3, w4, z] | (simp (disch := omega) only [IntWalk.i64_in]) | (refine go_brD (fun h => ?_) (fun h => ?_)) | (refine go_gsD (by ((try simp only [EE, QQ, seval]) <;> rfl)) (fun h => ?_) (fun h => ?_)) | (refine go_br (fun h => ?_) (fun h => ?_)) | (refine go_gs (by ((try simp only [EE, QQ, seval]) <;> rfl)) (fun h => ?_) (fun h => ?_)) | (apply go_call 5000 (e0) rfl rfl; (· ((try simp only [CC, LL, NM, EE, QQ, seval]) <;> (first | rfl | ((repeat constructor); done)))); (· exact CallForm.lent (by (try simp only [CC, LL, NM, EE, QQ, seval]); repeat' (first | trivial | (with_reducible rfl) | omega | (with_reducible apply And.intro) | rfl)) rfl rfl); (· ((try simp only [CC, LL, NM, EE, QQ, seval]) <;> (first | rfl | ((repeat constructor); done)))); (· ((try simp only [CC, LL, NM, EE, QQ, seval]) <;> (first | rfl | ((repeat constructor); done))))) | (apply go_call 5000 (e1) rfl rfl; (· ((try simp only [CC, LL, NM, EE, QQ, seval]) <;> (first | rfl | ((repeat constructor); done)))); (· exact CallForm.lent (by (try simp only [CC, LL, NM, EE, QQ, seval]); repeat' (first | trivial | (with_reducible rfl) | omega | (with_reducible apply And.intro) | rfl)) rfl rfl); (· ((try simp only [CC, LL, NM, EE, QQ, seval]) <;> (first | rfl | ((repeat constructor); done)))); (· ((try simp only [CC, LL, NM, EE, QQ, seval]) <;> (first | rfl | ((repeat constructor); done))))) | (apply go_call 5000 (e2) rfl rfl; (· ((try simp only [CC, LL, NM, EE, QQ, seval]) <;> (first | rfl | ((repeat constructor); done)))); (· exact CallForm.lent (by (try simp only [CC, LL, NM, EE, QQ, seval]); repeat' (first | trivial | (with_reducible rfl) | omega | (with_reducible apply And.intro) | rfl)) rfl rfl); (· ((try simp only [CC, LL, NM, EE, QQ, seval]) <;> (first | rfl | ((repeat constructor); done)))); (· ((try simp only [CC, LL, NM, EE, QQ, seval]) <;> (first | rfl | ((repeat constructor); done))))) | (apply go_call 5000 (e3) rfl rfl; (· ((try simp only [CC, LL, NM, EE, QQ, seval]) <;> (first | rfl | ((repeat constructor); done)))); (· exact CallForm.lent (by (try simp only [CC, LL, NM, EE, QQ, seval]); repeat' (first | trivial | (with_reducible rfl) | omega | (with_reducible apply And.intro) | rfl)) rfl rfl); (· ((try simp only [CC, LL, NM, EE, QQ, seval]) <;> (first | rfl | ((repeat constructor); done)))); (· ((try simp only [CC, LL, NM, EE, QQ, seval]) <;> (first | rfl | ((repeat constructor); done))))) | (apply go_call 5000 (e4) rfl rfl; (· ((try simp only [CC, LL, NM, EE, QQ, seval]) <;> (first | rfl | ((repeat constructor); done)))); (· exact CallForm.lent (by (try simp only [CC, LL, NM, EE, QQ, seval]); repeat' (first | trivial | (with_reducible rfl) | omega | (with_reducible apply And.intro) | rfl)) rfl rfl); (· ((try simp only [CC, LL, NM, EE, QQ, seval]) <;> (first | rfl | ((repeat constructor); done)))); (· ((try simp only [CC, LL, NM, EE, QQ, seval]) <;> (first | rfl | ((repeat constructor); done))))) | (apply go_call 5000 (e5) rfl rfl; (· ((try simp only [CC, LL, NM, EE, QQ, seval]) <;> (first | rfl | ((repeat constructor); done)))); (· exact CallForm.lent (by (try simp only [CC, LL, NM, EE, QQ, seval]); repeat' (first | trivial | (with_reducible rfl) | omega | (with_reducible apply And.intro) | rfl)) rfl rfl); (· ((try simp only [CC, LL, NM, EE, QQ, seval]) <;> (first | rfl | ((repeat constructor); done)))); (· ((try simp only [CC, LL, NM, EE, QQ, seval]) <;> (first | rfl | ((repeat constructor); done))))) | (apply go_call 5000 (e6) rfl rfl; (· ((try simp only [CC, LL, NM, EE, QQ, seval]) <;> (first | rfl | ((repeat constructor); done)))); (· exact CallForm.lent (by (try simp only [CC, LL, NM, EE, QQ, seval]); repeat' (first | trivial | (with_reducible rfl) | omega | (with_reducible apply And.intro) | rfl)) rfl rfl); (· ((try simp only [CC, LL, NM, EE, QQ, seval]) <;> (first | rfl | ((repeat constructor); done)))); (· ((try simp only [CC, LL, NM, EE, QQ, seval]) <;> (first | rfl | ((repeat constructor); done))))) | (with_reducible apply And.intro) | (with_reducible exact trivial) | omega | (simp only [List.length_map, List.length_cons, List.length_nil] at *; omega) | (show _ = true; first | rfl | kernel_rfl))
    all_goals ((first | apply ret_mk [] | apply end_mk []); (· ((try simp only [CC, LL, EE, QQ, seval]) <;> rfl)); (· ((try simp only [CC, LL, EE, QQ, seval]) <;> repeat' (first | (with_reducible apply And.intro) | rfl | trivial | (exact ⟨_, rfl⟩) | (exact ⟨_, _, _, rfl⟩) | (simp [*, ]; done) | (simp [*, ]; omega) | (simp_all []; done) | (simp_all []; omega)))); all_goals (first | trivial | decide | ((try simp only [CC, LL, EE, QQ, seval]) <;> repeat' (first | (with_reducible apply And.intro) | (exact ⟨_, rfl, rfl, rfl⟩) | (exact ⟨_, _, _, rfl⟩) | (exact ⟨_, rfl⟩) | trivial | rfl | (simp; done)))))
def notesG (l : List UInt8) (k : Nat) : Nat → List PNote × Nat
  | 0 => ([], k)
  | n + 1 => ((notesG l k n).1 ++ [(noteG l (notesG l k n).2).1], (noteG l (notesG l k n).2).2)
theorem notesG_ok {l : List UInt8} {k : Nat} : ∀ {n : Nat}, (notesG l k n).1.length = n ∧ ∀ x ∈ (notesG l k n).1, okN x
  | 0 => ⟨rfl, fun x h => by cases h⟩
  | n + 1 => by
    have ih := notesG_ok (l := l) (k := k) (n := n)
    rw [notesG]
    refine ⟨by simp [ih.1], fun x h => ?_⟩
    rcases List.mem_append.1 h with h | h
    · exact ih.2 x h
    · simp only [List.mem_singleton] at h
      rw [h]; exact noteG_ok _ _
def madeG (l : List UInt8) (k : Nat) : List PNote × Nat := notesG l (pickK l k) (pickV l k 8).toNat
theorem madeG_ok (l : List UInt8) (k : Nat) : okNs (madeG l k).1 ∧ (madeG l k).1.length ≤ 7 := by
  have a := pickV_in l k 8 (by omega)
  have h := notesG_ok (l := l) (k := pickK l k) (n := (pickV l k 8).toNat)
  refine ⟨⟨?_, h.2⟩, ?_⟩ <;> simp only [madeG, h.1] <;> omega
theorem made (l : List UInt8) (hl : l.length ≤ 140737488355328) (k : Nat) : Does Try.prog 7 [dcp] (dc l k) (vChan (madeG l k).1) (dc l (madeG l k).2) [] := by
  refine go_law31_made rfl BxOK.one fun cx hm0 => go_in 5000 ?_
  unfold ac_law31_made rs_law31_made
  have e0 := pick l hl k 8 (by omega)
  have a0 := pickV_in l k 8 (by omega)
  simp only [madeG]
  obtain ⟨m, hm⟩ : ∃ m : Nat, pickV l k 8 = (m : Int) := ⟨(pickV l k 8).toNat, by omega⟩
  rw [hm] at e0 a0 ⊢
  rw [Int.toNat_natCast]
  generalize pickK l k = k1 at *
  repeat' (first | simp (maxSteps := 9999999) only [↓GE, PL, PP, EE, QQ, seval] | (simp (disch := omega) only [IntWalk.i64_in]) | (refine go_brD (fun h => ?_) (fun h => ?_)) | (refine go_gsD (by ((try simp only [EE, QQ, seval]) <;> rfl)) (fun h => ?_) (fun h => ?_)) | (refine go_br (fun h => ?_) (fun h => ?_)) | (refine go_gs (by ((try simp only [EE, QQ, seval]) <;> rfl)) (fun h => ?_) (fun h => ?_)) | (apply go_call 5000 (e0) rfl rfl; (· ((try simp only [CC, LL, NM, EE, QQ, seval]) <;> (first | rfl | ((repeat constructor); done)))); (· exact CallForm.lent (by (try simp only [CC, LL, NM, EE, QQ, seval]); repeat' (first | trivial | (with_reducible rfl) | omega | (with_reducible apply And.intro) | rfl)) rfl rfl); (· ((try simp only [CC, LL, NM, EE, QQ, seval]) <;> (first | rfl | ((repeat constructor); done)))); (· ((try simp only [CC, LL, NM, EE, QQ, seval]) <;> (first | rfl | ((repeat constructor); done))))) | (with_reducible apply And.intro) | (with_reducible exact trivial) | omega | (simp only [List.length_map, List.length_cons, List.length_nil] at *; omega) | (show _ = true; first | rfl | kernel_rfl))
  refine go_loop 5000 hm0 (ι := {q : Nat × Nat // q.1 ≤ m}) (fun i => [(0, .bp 900000 0 0), (2, .bp 2 0 0), (3, .bp 3 0 0), (4, I ((m - i.1.1 : Nat) : Int))]) (fun i => [(2, .box 0 [.nl 8]), (3, .box 0 [.og 16 i.1.2]), (16, .arr i.1.2 8 true ((notesG l k1 i.1.1).1.map eNote)), (900000, .box 0 [.d (dBytes l), I (notesG l k1 i.1.1).2])]) (fun i => m - i.1.1) [16] ⟨(0, 0), Nat.zero_le _⟩ ?_ ?_
  · (simp only [GeS]; refine ⟨?_, ?_, ?_, ?_⟩; all_goals (repeat' (first | trivial | (with_reducible rfl) | simp only [CC, LL, EE, QQ, seval] | (with_reducible apply And.intro) | rfl | (refine ⟨_, rfl, ?_⟩) | (simp [notesG]; done) | omega)))
  · rintro ⟨⟨j, v⟩, hj⟩
    simp only at hj
    have ih := notesG_ok (l := l) (k := k1) (n := j)
    by_cases hjn : j < m
    · have e1 := dnote l hl (notesG l k1 j).2
      have q : decide (((m - j : Nat) : Int) > 0) = true := decide_eq_true (by omega)
      have w : IntKind.i64.wrap (((m - j : Nat) : Int) - 1) = ((m - (j + 1) : Nat) : Int) := by rw [show ((m - j : Nat) : Int) - 1 = ((m - (j + 1) : Nat) : Int) by omega]; exact IntWalk.i64_in _ (by omega)
      have hi := ih.1
      repeat' (first | simp (maxSteps := 9999999) only [↓GE, PL, PP, EE, QQ, seval, q, w, hi, List.length_map] | (simp (disch := omega) only [IntWalk.i64_in]) | (refine go_brD (fun h => ?_) (fun h => ?_)) | (refine go_gsD (by ((try simp only [EE, QQ, seval]) <;> rfl)) (fun h => ?_) (fun h => ?_)) | (refine go_br (fun h => ?_) (fun h => ?_)) | (refine go_gs (by ((try simp only [EE, QQ, seval]) <;> rfl)) (fun h => ?_) (fun h => ?_)) | (apply go_call 5000 (e1) rfl rfl; (· ((try simp only [CC, LL, NM, EE, QQ, seval]) <;> (first | rfl | ((repeat constructor); done)))); (· exact CallForm.lent (by (try simp only [CC, LL, NM, EE, QQ, seval]); repeat' (first | trivial | (with_reducible rfl) | omega | (with_reducible apply And.intro) | rfl)) rfl rfl); (· ((try simp only [CC, LL, NM, EE, QQ, seval]) <;> (first | rfl | ((repeat constructor); done)))); (· ((try simp only [CC, LL, NM, EE, QQ, seval]) <;> (first | rfl | ((repeat constructor); done))))) | (with_reducible apply And.intro) | (with_reducible exact trivial) | omega | (simp only [List.length_map, List.length_cons, List.length_nil] at *; omega) | (show _ = true; first | rfl | kernel_rfl))
      refine ⟨⟨(j + 1, v + 1), hjn⟩, ?_, by simp only; omega⟩
      (simp only [GeS]; refine ⟨?_, ?_, ?_, ?_⟩; all_goals (repeat' (first | trivial | (with_reducible rfl) | simp only [CC, LL, EE, QQ, seval] | (with_reducible apply And.intro) | rfl | (refine ⟨_, rfl, ?_⟩) | (simp [notesG, eNote]; done) | omega)))
    · have : j = m := by omega
      subst this
      have q : decide (((j - j : Nat) : Int) > 0) = false := decide_eq_false (by omega)
      repeat' (first | simp (maxSteps := 9999999) only [↓GE, PL, PP, EE, QQ, seval, q] | (simp (disch := omega) only [IntWalk.i64_in]) | (refine go_brD (fun h => ?_) (fun h => ?_)) | (refine go_gsD (by ((try simp only [EE, QQ, seval]) <;> rfl)) (fun h => ?_) (fun h => ?_)) | (refine go_br (fun h => ?_) (fun h => ?_)) | (refine go_gs (by ((try simp only [EE, QQ, seval]) <;> rfl)) (fun h => ?_) (fun h => ?_)) | (with_reducible apply And.intro) | (with_reducible exact trivial) | omega | (simp only [List.length_map, List.length_cons, List.length_nil] at *; omega) | (show _ = true; first | rfl | kernel_rfl))
      all_goals ((first | apply ret_mk [] | apply end_mk []); (· ((try simp only [CC, LL, EE, QQ, seval]) <;> rfl)); (· ((try simp only [CC, LL, EE, QQ, seval]) <;> repeat' (first | (with_reducible apply And.intro) | rfl | trivial | (exact ⟨_, rfl⟩) | (exact ⟨_, _, _, rfl⟩) | (simp [*, ]; done) | (simp [*, ]; omega) | (simp_all []; done) | (simp_all []; omega)))); all_goals (first | trivial | decide | ((try simp only [CC, LL, EE, QQ, seval]) <;> repeat' (first | (with_reducible apply And.intro) | (exact ⟨_, rfl, rfl, rfl⟩) | (exact ⟨_, _, _, rfl⟩) | (exact ⟨_, rfl⟩) | trivial | rfl | (simp; done)))))
end Go.Proofs.Ytejandeehmnibaa.Sim
