/- Two views have one text if they are equal alone: plain. -/
import Derived.Test.YtihjmnhjjpdenaaLWirePuts
import Derived.Test.YtihjmnhjjpdenaaLVwP
import Derived.Test.YtihjmnhjjpdenaaLWirePlain
section
namespace Go.Proofs.Ytihjmnhjjpdenaa.Sim
open Go Go.RowKit Go.Deep
set_option maxRecDepth 100000
set_option maxHeartbeats 4000000
set_option linter.unusedVariables false
set_option linter.unusedSimpArgs false
attribute [local irreducible] Go Mean
open Go.Proofs.Ytihjmnhjjpdenaa.Wire (putB putL putB_len wPutInt_any wPutList_any rPutInt_any rPutList_any flat_len Int64)
/-- A call that gives a value of one cell, and turns nothing. -/
theorem does_at {P : Program} {f : FuncId} {xs : List V} {r : Value} (hr : r.oneCell' = true) (h : ∀ (w : World) (m : M) (hd : H) (S : Nat → Prop) (us : List Value), (∀ b, S b → b < w.heap.size) → VRs m hd w S xs us → Calls P f us.toArray w fun e w' => e = .returned r ∧ Below w.heap.size w w') : Does P f xs [] (.d (.at r)) [] [] := by
  intro w hd S X us hm hv
  refine (h w _ hd S us hm.lt hv).mono ?_
  rintro e w' ⟨rfl, hb⟩
  refine ⟨_, hd, S, rfl, ⟨hb.os, hb.tape, hb.output, hb.size, fun k hk _ => hb.block k hk⟩, ⟨fun i o h => by simp [ups, fresh] at h, fun i j oi oj b _ h => by simp [ups, fresh] at h, fun b hb' => Nat.lt_of_lt_of_le (hm.lt b hb') hb.size, hb.size, hm.sX⟩, ?_, fun b h => .inl h, Le.refl _ _⟩
  simp only [VR, D.is]
  exact ⟨trivial, hr⟩
abbrev vS (l : List UInt8) : V := .d (.at (.string ⟨l.toArray⟩))
theorem str_one (l : List UInt8) : (Value.string ⟨l.toArray⟩).oneCell' = true := rfl
theorem wPutIntD (s : List UInt8) (n : Int) (hn : I64 n) (hs : s.length + 10 ≤ 140737488355328) : Does Try.prog 37 [vS s, I n] [] (vS (s ++ putB n)) [] [] := by
  refine does_at (str_one _) fun w m hd S us hS hv => ?_
  simp only [VRs, VR, I, D.is] at hv
  obtain ⟨u, r, rfl, ⟨rfl, -⟩, u2, r2, rfl, ⟨rfl, -⟩, rfl⟩ := hv
  exact wPutInt_any s n w hn.1 hn.2 hs
theorem rPutIntD (s : List UInt8) (n : Int) (hn : I64 n) (hs : s.length + 10 ≤ 140737488355328) : Does Try.prog 41 [vS s, I n] [] (vS (s ++ putB n)) [] [] := by
  refine does_at (str_one _) fun w m hd S us hS hv => ?_
  simp only [VRs, VR, I, D.is] at hv
  obtain ⟨u, r, rfl, ⟨rfl, -⟩, u2, r2, rfl, ⟨rfl, -⟩, rfl⟩ := hv
  exact rPutInt_any s n w hn.1 hn.2 (by omega)
theorem wPutListD (s : List UInt8) (l : List Int) (hl : ∀ x ∈ l, I64 x) (hs : s.length + 10 * l.length + 20 ≤ 140737488355328) : Does Try.prog 38 [vS s, .d (dInts l)] [] (vS (s ++ putL l)) [] [] := by
  refine does_at (str_one _) fun w m hd S us hS hv => ?_
  simp only [VRs, VR] at hv
  obtain ⟨u, r, rfl, h1, u2, r2, rfl, h2, rfl⟩ := hv
  simp only [D.is] at h1
  obtain ⟨rfl, -⟩ := h1
  have hq := (dints_lst hl h2).more (S' := Lo w.heap.size) (fun b hb => hS b hb)
  obtain ⟨a, c, rfl, -⟩ := hq.form
  exact wPutList_any s l a c w.heap.size w hl hq.rd (Nat.le_refl _) hs
theorem rPutListD (s : List UInt8) (l : List Int) (hl : ∀ x ∈ l, I64 x) (hs : s.length + 10 * l.length + 20 ≤ 140737488355328) : Does Try.prog 42 [vS s, .d (dInts l)] [] (vS (s ++ putL l)) [] [] := by
  refine does_at (str_one _) fun w m hd S us hS hv => ?_
  simp only [VRs, VR] at hv
  obtain ⟨u, r, rfl, h1, u2, r2, rfl, h2, rfl⟩ := hv
  simp only [D.is] at h1
  obtain ⟨rfl, -⟩ := h1
  have hq := (dints_lst hl h2).more (S' := Lo w.heap.size) (fun b hb => hS b hb)
  obtain ⟨a, c, rfl, -⟩ := hq.form
  exact rPutList_any s l a c w.heap.size w hl hq.rd (Nat.le_refl _) hs
/-- The bytes of the queries of a probe; of a view. -/
def txt1 (q : List (List Int)) : List UInt8 := putB q.length ++ q.flatMap putL
def txt (sv : List Int) (qs : List (List (List Int))) : List UInt8 := putL sv ++ (putB qs.length ++ qs.flatMap txt1)
theorem putL_len {l : List Int} (hl : ∀ x ∈ l, I64 x) (h : l.length ≤ 1000) : (putL l).length ≤ 11000 := by
  have h1 := flat_len (l := l) hl
  have h2 := (putB_len (n := (l.length : Int)) (by omega) (by omega)).1
  rw [putL, List.length_append]; omega
theorem flatMap_le {α : Type} {f : α → List UInt8} {m : Nat} : ∀ {l : List α}, (∀ x ∈ l, (f x).length ≤ m) → (l.flatMap f).length ≤ l.length * m
  | [], _ => by simp
  | x :: l, h => by
    have h1 := h x (by simp)
    have h2 := flatMap_le (f := f) (m := m) (l := l) fun y hy => h y (by simp [hy])
    rw [List.flatMap_cons, List.length_append, List.length_cons, Nat.add_mul, Nat.one_mul]; omega
theorem take_flatMap {α : Type} (f : α → List UInt8) (z : α) {l : List α} {k : Nat} (h : k < l.length) : (l.take (k + 1)).flatMap f = (l.take k).flatMap f ++ f (l.getD k z) := by
  rw [take_succ_getD z l k h, List.flatMap_append, List.flatMap_cons, List.flatMap_nil, List.append_nil]
theorem txt1_len {q : List (List Int)} (h : q.length ≤ 1000) (h1 : ∀ x ∈ q, x.length ≤ 1000) (h2 : ∀ x ∈ q, ∀ n ∈ x, I64 n) : (txt1 q).length ≤ 12000000 := by
  have e1 := flatMap_le (f := putL) (l := q) (m := 11000) fun x hx => putL_len (h2 x hx) (h1 x hx)
  have e2 := (putB_len (n := (q.length : Int)) (by omega) (by omega)).1
  have e3 : q.length * 11000 ≤ 1000 * 11000 := Nat.mul_le_mul_right _ h
  rw [txt1, List.length_append]; omega
theorem vText (sv : List Int) (qs : List (List (List Int))) (h1 : sv.length ≤ 1000) (hs : ∀ x ∈ sv, I64 x) (hq : smQ qs) (hi : inQ qs) : Does Try.prog 14 [vView sv qs] [] (vS (txt sv qs)) [] [] := by
  refine go_view_Text rfl BxOK.nil fun cx hm0 => go_in 5000 ?_
  unfold ac_view_Text rs_view_Text
  have hq1 := hq.1
  have e1 : Does Try.prog 38 [.d (.at (.string ⟨⟨[]⟩⟩)), .d (dInts sv)] [] (vS (putL sv)) [] [] := wPutListD [] sv hs (by simp only [List.length_nil]; omega)
  have l1 := putL_len hs h1
  have e2 := wPutIntD (putL sv) (qs.length : Int) ⟨by omega, by omega⟩ (by omega)
  have l2 := (putB_len (n := (qs.length : Int)) (by omega) (by omega)).1
  repeat' (first | simp (maxSteps := 9999999) only [↓GE, PL, PP, EE, QQ, seval, List.length_map] | (simp (disch := omega) only [IntWalk.i64_in]) | (refine go_brD (fun h => ?_) (fun h => ?_)) | (refine go_gsD (by ((try simp only [EE, QQ, seval]) <;> rfl)) (fun h => ?_) (fun h => ?_)) | (refine go_br (fun h => ?_) (fun h => ?_)) | (refine go_gs (by ((try simp only [EE, QQ, seval]) <;> rfl)) (fun h => ?_) (fun h => ?_)) | (apply go_call 5000 (e1) rfl rfl; (· ((try simp only [CC, LL, NM, EE, QQ, seval]) <;> (first | rfl | ((repeat constructor); done)))); (· exact CallForm.plain rfl); (· ((try simp only [CC, LL, NM, EE, QQ, seval]) <;> (first | rfl | ((repeat constructor); done)))); (· ((try simp only [CC, LL, NM, EE, QQ, seval]) <;> (first | rfl | ((repeat constructor); done))))) | (apply go_call 5000 (e2) rfl rfl; (· ((try simp only [CC, LL, NM, EE, QQ, seval]) <;> (first | rfl | ((repeat constructor); done)))); (· exact CallForm.plain rfl); (· ((try simp only [CC, LL, NM, EE, QQ, seval]) <;> (first | rfl | ((repeat constructor); done)))); (· ((try simp only [CC, LL, NM, EE, QQ, seval]) <;> (first | rfl | ((repeat constructor); done))))) | (with_reducible apply And.intro) | (with_reducible exact trivial) | omega | (simp only [List.length_map, List.length_cons, List.length_nil] at *; omega) | (show _ = true; first | rfl | kernel_rfl))
  refine go_loop 5000 hm0 (ι := {k : Nat // k ≤ qs.length}) (fun i => [(1, .bp 1 0 0), (3, vS (putL sv ++ (putB qs.length ++ (qs.take i.1).flatMap txt1))), (16, .d (dQs qs)), (17, I qs.length), (18, I i.1)]) (fun i => [(1, .box 0 [.d (dInts sv), .d (dQs qs)])]) (fun i => qs.length - i.1) [] ⟨0, Nat.zero_le _⟩ ?_ ?_
  · (simp only [GeS]; refine ⟨?_, ?_, ?_, ?_⟩; all_goals (repeat' (first | (with_reducible exact True.intro) | (with_reducible rfl) | simp only [CC, LL, EE, QQ, seval, List.contains_nil, Bool.false_eq_true, ↓reduceIte, Option.some.injEq, O.arr.injEq, true_and, and_true] | (with_reducible apply And.intro) | (refine ⟨_, rfl, ?_⟩) | (simp; done) | rfl | omega | trivial)))
  rintro ⟨k, hk⟩
  by_cases hkl : k < qs.length
  · have hs1 := getD_map eQ [] [] qs k hkl
    have hm := mem_getD [] qs k hkl
    have hpr := hq.2 _ hm
    have hpi := hi _ hm
    have htk := take_flatMap txt1 [] hkl
    have lk := flatMap_le (f := txt1) (l := qs.take k) (m := 12000000) fun q h => txt1_len (hq.2 q (List.mem_of_mem_take h)).1 (hq.2 q (List.mem_of_mem_take h)).2 (hi q (List.mem_of_mem_take h))
    have lk2 : (qs.take k).length * 12000000 ≤ 1000 * 12000000 := Nat.mul_le_mul_right _ (by rw [List.length_take]; omega)
    generalize qs.getD k [] = pr at *
    have hp1 := hpr.1
    have hT : (qs.take (k + 1)).flatMap txt1 = (qs.take k).flatMap txt1 ++ (putB pr.length ++ pr.flatMap putL) := htk
    generalize (qs.take k).flatMap txt1 = tk at *
    have ls : (putL sv ++ (putB qs.length ++ tk)).length ≤ 13000000000 := by simp only [List.length_append]; omega
    generalize hss : putL sv ++ (putB qs.length ++ tk) = ss at *
    have e3 := wPutIntD ss (pr.length : Int) ⟨by omega, by omega⟩ (by omega)
    have l3 := (putB_len (n := (pr.length : Int)) (by omega) (by omega)).1
    repeat' (first | simp (maxSteps := 9999999) only [↓GE, PL, PP, EE, QQ, seval, hs1, hkl, eQ, List.length_map] | (simp (disch := omega) only [IntWalk.i64_in]) | (refine go_brD (fun h => ?_) (fun h => ?_)) | (refine go_gsD (by ((try simp only [EE, QQ, seval]) <;> rfl)) (fun h => ?_) (fun h => ?_)) | (refine go_br (fun h => ?_) (fun h => ?_)) | (refine go_gs (by ((try simp only [EE, QQ, seval]) <;> rfl)) (fun h => ?_) (fun h => ?_)) | (apply go_call 5000 (e3) rfl rfl; (· ((try simp only [CC, LL, NM, EE, QQ, seval]) <;> (first | rfl | ((repeat constructor); done)))); (· exact CallForm.plain rfl); (· ((try simp only [CC, LL, NM, EE, QQ, seval]) <;> (first | rfl | ((repeat constructor); done)))); (· ((try simp only [CC, LL, NM, EE, QQ, seval]) <;> (first | rfl | ((repeat constructor); done))))) | (with_reducible apply And.intro) | (with_reducible exact trivial) | omega | (simp only [List.length_map, List.length_cons, List.length_nil] at *; omega) | (show _ = true; first | rfl | kernel_rfl))
    refine go_loop 5000 hm0 (ι := {j : Nat // j ≤ pr.length}) (fun i => [(1, .bp 1 0 0), (3, vS (ss ++ (putB pr.length ++ (pr.take i.1).flatMap putL))), (16, .d (dQs qs)), (17, I qs.length), (18, I k), (26, .d (dRows pr)), (27, I pr.length), (28, I i.1)]) (fun i => [(1, .box 0 [.d (dInts sv), .d (dQs qs)])]) (fun i => pr.length - i.1) [] ⟨0, Nat.zero_le _⟩ ?_ ?_
    · (simp only [GeS]; refine ⟨?_, ?_, ?_, ?_⟩; all_goals (repeat' (first | (with_reducible exact True.intro) | (with_reducible rfl) | simp only [CC, LL, EE, QQ, seval, List.contains_nil, Bool.false_eq_true, ↓reduceIte, Option.some.injEq, O.arr.injEq, true_and, and_true] | (with_reducible apply And.intro) | (refine ⟨_, rfl, ?_⟩) | (simp; done) | rfl | omega | trivial)))
    rintro ⟨j, hj⟩
    by_cases hjl : j < pr.length
    · have hs2 := getD_map eR [] [] pr j hjl
      have hm2 := mem_getD [] pr j hjl
      have hr1 := hpr.2 _ hm2
      have hri := hpi _ hm2
      have htj := take_flatMap putL [] hjl
      have lj := flatMap_le (f := putL) (l := pr.take j) (m := 11000) fun x h => putL_len (hpi x (List.mem_of_mem_take h)) (hpr.2 x (List.mem_of_mem_take h))
      have lj2 : (pr.take j).length * 11000 ≤ 1000 * 11000 := Nat.mul_le_mul_right _ (by rw [List.length_take]; omega)
      generalize pr.getD j [] = r at *
      generalize (pr.take j).flatMap putL = tj at *
      have e4 := wPutListD (ss ++ (putB pr.length ++ tj)) r hri (by simp only [List.length_append]; omega)
      have hN : ss ++ (putB pr.length ++ (pr.take (j + 1)).flatMap putL) = ss ++ (putB pr.length ++ tj) ++ putL r := by rw [htj]; simp only [List.append_assoc]
      repeat' (first | simp (maxSteps := 9999999) only [↓GE, PL, PP, EE, QQ, seval, hs2, hjl, eR, List.length_map] | (simp (disch := omega) only [IntWalk.i64_in]) | (refine go_brD (fun h => ?_) (fun h => ?_)) | (refine go_gsD (by ((try simp only [EE, QQ, seval]) <;> rfl)) (fun h => ?_) (fun h => ?_)) | (refine go_br (fun h => ?_) (fun h => ?_)) | (refine go_gs (by ((try simp only [EE, QQ, seval]) <;> rfl)) (fun h => ?_) (fun h => ?_)) | (apply go_call 5000 (e4) rfl rfl; (· ((try simp only [CC, LL, NM, EE, QQ, seval]) <;> (first | rfl | ((repeat constructor); done)))); (· exact CallForm.plain rfl); (· ((try simp only [CC, LL, NM, EE, QQ, seval]) <;> (first | rfl | ((repeat constructor); done)))); (· ((try simp only [CC, LL, NM, EE, QQ, seval]) <;> (first | rfl | ((repeat constructor); done))))) | (with_reducible apply And.intro) | (with_reducible exact trivial) | omega | (simp only [List.length_map, List.length_cons, List.length_nil] at *; omega) | (show _ = true; first | rfl | kernel_rfl))
      refine ⟨⟨j + 1, hjl⟩, ?_, by simp only; omega⟩
      (simp only [GeS]; refine ⟨?_, ?_, ?_, ?_⟩; all_goals (repeat' (first | (with_reducible exact True.intro) | (with_reducible rfl) | simp only [CC, LL, EE, QQ, seval, List.contains_nil, Bool.false_eq_true, ↓reduceIte, Option.some.injEq, O.arr.injEq, true_and, and_true] | (with_reducible apply And.intro) | (refine ⟨_, rfl, ?_⟩) | (simp [hN]; done) | rfl | omega | trivial)))
    · obtain rfl : j = pr.length := by omega
      have hN : putL sv ++ (putB qs.length ++ (qs.take (k + 1)).flatMap txt1) = ss ++ (putB pr.length ++ pr.flatMap putL) := by rw [hT, ← hss]; simp only [List.append_assoc]
      repeat' (first | simp (maxSteps := 9999999) only [↓GE, PL, PP, EE, QQ, seval, List.take_length, List.length_map] | (simp (disch := omega) only [IntWalk.i64_in]) | (refine go_brD (fun h => ?_) (fun h => ?_)) | (refine go_gsD (by ((try simp only [EE, QQ, seval]) <;> rfl)) (fun h => ?_) (fun h => ?_)) | (refine go_br (fun h => ?_) (fun h => ?_)) | (refine go_gs (by ((try simp only [EE, QQ, seval]) <;> rfl)) (fun h => ?_) (fun h => ?_)) | (with_reducible apply And.intro) | (with_reducible exact trivial) | omega | (simp only [List.length_map, List.length_cons, List.length_nil] at *; omega) | (show _ = true; first | rfl | kernel_rfl))
      refine ⟨⟨k + 1, hkl⟩, ?_, by simp only; omega⟩
      (simp only [GeS]; refine ⟨?_, ?_, ?_, ?_⟩; all_goals (repeat' (first | (with_reducible exact True.intro) | (with_reducible rfl) | simp only [CC, LL, EE, QQ, seval, List.contains_nil, Bool.false_eq_true, ↓reduceIte, Option.some.injEq, O.arr.injEq, true_and, and_true] | (with_reducible apply And.intro) | (refine ⟨_, rfl, ?_⟩) | (simp [hN]; done) | rfl | omega | trivial)))
  · obtain rfl : k = qs.length := by omega
    have hN : txt sv qs = putL sv ++ (putB qs.length ++ (qs.take qs.length).flatMap txt1) := by rw [List.take_length]; rfl
    repeat' (first | simp (maxSteps := 9999999) only [↓GE, PL, PP, EE, QQ, seval, List.length_map] | (simp (disch := omega) only [IntWalk.i64_in]) | (refine go_brD (fun h => ?_) (fun h => ?_)) | (refine go_gsD (by ((try simp only [EE, QQ, seval]) <;> rfl)) (fun h => ?_) (fun h => ?_)) | (refine go_br (fun h => ?_) (fun h => ?_)) | (refine go_gs (by ((try simp only [EE, QQ, seval]) <;> rfl)) (fun h => ?_) (fun h => ?_)) | (with_reducible apply And.intro) | (with_reducible exact trivial) | omega | (simp only [List.length_map, List.length_cons, List.length_nil] at *; omega) | (show _ = true; first | rfl | kernel_rfl))
    all_goals ((first | apply ret_mk [] | apply end_mk []); (· ((try simp only [CC, LL, EE, QQ, seval]) <;> rfl)); (· ((try simp only [CC, LL, EE, QQ, seval]) <;> repeat' (first | (with_reducible apply And.intro) | rfl | trivial | (exact ⟨_, rfl⟩) | (exact ⟨_, _, _, rfl⟩) | (simp [*, hN]; done) | (simp [*, hN]; omega) | (simp_all [hN]; done) | (simp_all [hN]; omega)))); all_goals (first | trivial | decide | ((try simp only [CC, LL, EE, QQ, seval]) <;> repeat' (first | (with_reducible apply And.intro) | (exact ⟨_, rfl, rfl, rfl⟩) | (exact ⟨_, _, _, rfl⟩) | (exact ⟨_, rfl⟩) | trivial | rfl | (simp; done)))))
end Go.Proofs.Ytihjmnhjjpdenaa.Sim
end
section
namespace Go.Proofs.Ytihjmnhjjpdenaa.Wire
open Go Go.RowKit
set_option linter.unusedVariables false

theorem zz_unzz (u : Nat) : zz (unzz u) = u := by
  unfold unzz zz
  split <;> split <;> omega
theorem unzz_zz (n : Int) : unzz (zz n) = n := by
  unfold unzz zz
  split <;> split <;> omega
theorem unzz_i64 {u : Nat} (h : u < 18446744073709551616) : -9223372036854775808 ≤ unzz u ∧ unzz u ≤ 9223372036854775807 := by
  unfold unzz
  split <;> omega

theorem pow_bounds {k : Nat} (hk : k ≤ 9) : 1 ≤ 128 ^ k ∧ (k < 9 → 128 ^ k * 128 ≤ 128 ^ 9) := by
  refine ⟨Nat.pos_of_ne_zero (by simp), fun h => ?_⟩
  rw [← Nat.pow_succ]
  exact Nat.pow_le_pow_right (by decide) (by omega)

theorem acc_bound {acc j b : Nat} (hj : j ≤ 9) (h9 : j = 9 → b ≤ 1) (h : acc < 128 ^ j) : acc + b % 128 * 128 ^ j < 18446744073709551616 := by
  by_cases h' : j = 9
  · have := h9 h'
    subst h'
    have : b % 128 ≤ 1 := by omega
    have h2 : b % 128 * 128 ^ 9 ≤ 1 * 128 ^ 9 := Nat.mul_le_mul_right _ this
    omega
  · have h1 := acc_lt (b := b) h
    have h2 : 128 ^ (j + 1) ≤ 128 ^ 9 := Nat.pow_le_pow_right (by decide) (by omega)
    omega

/-- Bytes that are read are the ones of their number. -/
theorem rd_sound : ∀ (l : List UInt8) (k acc : Nat) (x : Int) (j : Nat), k ≤ 9 → acc < 128 ^ k → rd k acc l = (x, j, 0) →
    ∃ v, x = unzz (acc + v * 128 ^ k) ∧ acc + v * 128 ^ k < 18446744073709551616 ∧ l.take (j - k) = vb v ∧ k < j ∧ j ≤ 10 ∧ j - k ≤ l.length ∧ (0 < k → 0 < v)
  | [], k, acc, x, j, hk, ha, h => by simp [rd] at h
  | b :: r, k, acc, x, j, hk, ha, h => by
    have hb := b.toNat_lt
    by_cases hf : k = 9 ∧ 1 < b.toNat ∨ 0 < k ∧ b.toNat = 0
    · rw [rd, if_pos hf] at h; simp at h
    · rw [rd, if_neg hf] at h
      by_cases hlt : b.toNat < 128
      · rw [if_pos hlt] at h
        simp only [Prod.mk.injEq, and_true] at h
        obtain ⟨rfl, rfl⟩ := h
        have hu := acc_bound (b := b.toNat) hk (by omega) ha
        rw [Nat.mod_eq_of_lt hlt] at hu
        refine ⟨b.toNat, rfl, hu, ?_, by omega, by omega, by simp, by omega⟩
        rw [vb_small (by omega), show k + 1 - k = 1 by omega]
        simp
      · rw [if_neg hlt] at h
        have hk9 : k ≠ 9 := by omega
        obtain ⟨v, hx, hu, ht, h1, h2, h3, h4⟩ := rd_sound r (k + 1) _ x j (by omega) (acc_lt ha) h
        have hv := h4 (by omega)
        have e1 : acc + b.toNat % 128 * 128 ^ k + v * 128 ^ (k + 1) = acc + (b.toNat % 128 + 128 * v) * 128 ^ k := by
          rw [Nat.pow_succ, Nat.add_mul, Nat.mul_comm 128 v, Nat.mul_assoc, Nat.mul_comm (128 ^ k) 128]; omega
        rw [e1] at hx hu
        refine ⟨b.toNat % 128 + 128 * v, hx, hu, ?_, by omega, h2, by simp; omega, by omega⟩
        rw [vb_big (by omega), show (b.toNat % 128 + 128 * v) % 128 + 128 = b.toNat by omega, show (b.toNat % 128 + 128 * v) / 128 = v by omega, ← ht, show j - k = (j - (k + 1)) + 1 by omega]
        simp

/-- What was put is read, whatever stands behind it. -/
theorem rd_put : ∀ (f v k acc : Nat) (r : List UInt8), v < f → k ≤ 9 → acc < 128 ^ k → acc + v * 128 ^ k < 18446744073709551616 → (0 < k → 0 < v) →
    rd k acc (vb v ++ r) = (unzz (acc + v * 128 ^ k), k + (vb v).length, 0)
  | 0, v, k, acc, r, hf, _, _, _, _ => by omega
  | f + 1, v, k, acc, r, hf, hk, ha, hu, hv => by
    have hp := pow_bounds hk
    have h9 : k = 9 → v ≤ 1 := fun h => by subst h; omega
    by_cases hlt : 127 < v
    · have hk9 : k < 9 := by
        rcases Nat.lt_or_ge k 9 with h | h
        · exact h
        · have := h9 (by omega); omega
      have hn : (UInt8.ofNat (v % 128 + 128)).toNat = v % 128 + 128 := by simp; omega
      rw [vb_big hlt, List.cons_append, rd, hn, if_neg (by omega), if_neg (by omega)]
      have e1 : acc + (v % 128 + 128) % 128 * 128 ^ k + v / 128 * 128 ^ (k + 1) = acc + v * 128 ^ k := by
        have e2 : (v % 128 + 128) % 128 = v % 128 := by omega
        have e3 : v = v % 128 + v / 128 * 128 := by omega
        rw [e2, Nat.pow_succ, Nat.mul_comm (128 ^ k) 128, ← Nat.mul_assoc, Nat.add_assoc, ← Nat.add_mul, ← e3]
      rw [rd_put f (v / 128) (k + 1) _ r (by omega) (by omega) (acc_lt ha) (by rw [e1]; exact hu) (by omega), e1]
      simp; omega
    · have hn : (UInt8.ofNat v).toNat = v := by simp; omega
      rw [vb_small hlt, List.singleton_append, rd, hn, if_neg (by omega), if_pos (by omega)]
      simp

theorem getI_put {n : Int} (h0 : -9223372036854775808 ≤ n) (h1 : n ≤ 9223372036854775807) (pre r : List UInt8) :
    getI (pre ++ (putB n ++ r)) pre.length = (n, ((pre.length + (putB n).length : Nat) : Int), 0) := by
  unfold getI
  rw [if_neg (by simp; omega), Int.toNat_natCast, List.drop_left, putB, rd_put (zz n + 1) (zz n) 0 0 r (by omega) (by omega) (by decide) (by simp; exact zz_lt h0 h1) (by omega)]
  simp [unzz_zz]

theorem getI_sound {s : List UInt8} {a : Nat} {x k : Int} (h : getI s a = (x, k, 0)) :
    ∃ j : Nat, k = a + j ∧ 1 ≤ j ∧ j ≤ 10 ∧ a + j ≤ s.length ∧ (s.drop a).take j = putB x ∧ -9223372036854775808 ≤ x ∧ x ≤ 9223372036854775807 := by
  unfold getI at h
  by_cases hr : (a : Int) < 0 ∨ (s.length : Int) < a
  · rw [if_pos hr] at h; simp at h
  · rw [if_neg hr, Int.toNat_natCast] at h
    rcases hrd : rd 0 0 (s.drop a) with ⟨x', j, e⟩
    rw [hrd] at h
    cases e with
    | succ e => simp at h; omega
    | zero =>
      simp only [Prod.mk.injEq, and_true] at h
      obtain ⟨rfl, rfl⟩ := h
      obtain ⟨v, hx, hu, ht, h1, h2, h3, _⟩ := rd_sound _ 0 0 x' j (by omega) (by decide) hrd
      simp at hx hu ht h3
      refine ⟨j, rfl, by omega, h2, by omega, ?_, ?_⟩
      · rw [ht, putB, hx, zz_unzz]
      · rw [hx]; exact unzz_i64 hu

/-- The bytes of no number begin with those of another one. -/
theorem put_prefix {m n : Int} (m0 : -9223372036854775808 ≤ m) (m1 : m ≤ 9223372036854775807) (n0 : -9223372036854775808 ≤ n) (n1 : n ≤ 9223372036854775807)
    (h : (putB n).take (putB m).length = putB m) : m = n := by
  have e : putB n = putB m ++ (putB n).drop (putB m).length := by
    conv => lhs; rw [← List.take_append_drop (putB m).length (putB n), h]
  have h1 := getI_put n0 n1 [] []
  have h2 := getI_put m0 m1 [] ((putB n).drop (putB m).length)
  rw [← e] at h2
  simp only [List.append_nil, List.nil_append] at h1 h2
  rw [h1] at h2
  simp only [Prod.mk.injEq] at h2
  exact h2.1.symm
end Go.Proofs.Ytihjmnhjjpdenaa.Wire
end
section
namespace Go.Proofs.Ytihjmnhjjpdenaa.Sim
open Go Go.RowKit Go.Deep
set_option linter.unusedVariables false
set_option linter.unusedSimpArgs false
open Go.Proofs.Ytihjmnhjjpdenaa.Wire (putB putL putB_len getI getI_put)
/-- Bytes that begin nothing else. -/
def Free {α : Type} (P : α → Prop) (f : α → List UInt8) : Prop := ∀ x y r s, P x → P y → f x ++ r = f y ++ s → x = y ∧ r = s
theorem putB_free : Free I64 putB := by
  intro a b r s ha hb h
  have h1 := getI_put ha.1 ha.2 [] r
  have h2 := getI_put hb.1 hb.2 [] s
  simp only [List.nil_append] at h1 h2
  rw [h, h2] at h1
  simp only [Prod.mk.injEq] at h1
  obtain rfl := h1.1
  exact ⟨rfl, List.append_cancel_left h⟩
theorem flat_free {α : Type} {P : α → Prop} {f : α → List UInt8} (hf : Free P f) : ∀ {l m : List α} {r s : List UInt8}, l.length = m.length → (∀ x ∈ l, P x) → (∀ x ∈ m, P x) → l.flatMap f ++ r = m.flatMap f ++ s → l = m ∧ r = s
  | [], [], r, s, _, _, _, h => ⟨rfl, by simpa using h⟩
  | x :: l, y :: m, r, s, hl, h1, h2, h => by
    simp only [List.flatMap_cons, List.append_assoc] at h
    obtain ⟨rfl, h3⟩ := hf _ _ _ _ (h1 x (by simp)) (h2 y (by simp)) h
    obtain ⟨rfl, h4⟩ := flat_free hf (by simpa using hl) (fun z hz => h1 z (by simp [hz])) (fun z hz => h2 z (by simp [hz])) h3
    exact ⟨rfl, h4⟩
  | [], _ :: _, _, _, hl, _, _, _ => by simp at hl
  | _ :: _, [], _, _, hl, _, _, _ => by simp at hl
theorem list_free {α : Type} {P : α → Prop} {f : α → List UInt8} (hf : Free P f) : Free (fun l : List α => l.length ≤ 1000 ∧ ∀ x ∈ l, P x) (fun l => putB l.length ++ l.flatMap f) := by
  intro l m r s hl hm h
  have hl1 := hl.1
  have hm1 := hm.1
  simp only [List.append_assoc] at h
  obtain ⟨h1, h2⟩ := putB_free _ _ _ _ ⟨by omega, by omega⟩ ⟨by omega, by omega⟩ h
  exact flat_free hf (by omega) hl.2 hm.2 h2
def okL (l : List Int) : Prop := l.length ≤ 1000 ∧ ∀ x ∈ l, I64 x
theorem putL_free : Free okL putL := list_free putB_free
def okL2 (l : List (List Int)) : Prop := l.length ≤ 1000 ∧ ∀ x ∈ l, okL x
theorem txt1_free : Free okL2 txt1 := list_free putL_free
def okL3 (l : List (List (List Int))) : Prop := l.length ≤ 1000 ∧ ∀ x ∈ l, okL2 x
theorem okL3_of {qs : List (List (List Int))} (h : smQ qs) (hi : inQ qs) : okL3 qs := ⟨h.1, fun q hq => ⟨(h.2 q hq).1, fun x hx => ⟨(h.2 q hq).2 x hx, hi q hq x hx⟩⟩⟩
theorem txt_eq {sv sw : List Int} {qs rs : List (List (List Int))} (h1 : okL sv) (h2 : okL sw) (h3 : okL3 qs) (h4 : okL3 rs) : txt sv qs = txt sw rs ↔ sv = sw ∧ qs = rs := by
  constructor
  · intro h
    obtain ⟨rfl, h5⟩ := putL_free sv sw _ _ h1 h2 h
    obtain ⟨rfl, -⟩ := list_free txt1_free qs rs [] [] h3 h4 (by simpa using h5)
    exact ⟨rfl, rfl⟩
  · rintro ⟨rfl, rfl⟩; rfl
end Go.Proofs.Ytihjmnhjjpdenaa.Sim
end
