/- Which row queries of degree 2 to four servers ask for: the plain law. -/
import Derived.Test.YthbhkkdaaipngaaGreatDoorMTpA
import Derived.Test.YthbhkkdaaipngaaGreatDoorMSimLq
import Derived.Test.YthbhkkdaaipngaaGreatDoorMTpM
import Derived.Test.YthbhkkdaaipngaaGreatDoorMTpEa
import Derived.Test.YthbhkkdaaipngaaGreatDoorMTpDa
section
namespace Go.Proofs.YthbhkkdaaipngaaGreatDoor.Sim
open Go Go.RowKit Go.Deep
set_option maxRecDepth 100000
set_option maxHeartbeats 4000000
set_option linter.unusedVariables false
set_option linter.unusedSimpArgs false
attribute [local irreducible] Go Mean
/-- Which of the rest is taken. -/
def ordJ (l : List Int) (rest : List Int) (k : Nat) : Nat := (nextV l k rest.length).toNat
def ordR (l rest : List Int) (k : Nat) : List Int := rest.take (ordJ l rest k) ++ rest.drop (ordJ l rest k + 1)
/-- The order, and where the deck is then. -/
def ordF (l : List Int) : Nat → List Int → Nat → List Int × Nat
  | 0, _, k => ([], k)
  | f + 1, rest, k => match rest with
    | [] => ([], k)
    | x :: r => let s := ordF l f (ordR l (x :: r) k) (nextK l k (x :: r).length); ((x :: r).getD (ordJ l (x :: r) k) 0 :: s.1, s.2)
theorem ordJ_lt {l rest : List Int} {k : Nat} (h : 0 < rest.length) : ordJ l rest k < rest.length ∧ nextV l k rest.length = (ordJ l rest k : Int) := by
  unfold ordJ
  have hb : 0 ≤ nextV l k rest.length ∧ nextV l k rest.length < rest.length := by
    unfold nextV
    split
    · omega
    · exact ⟨Int.emod_nonneg _ (by omega), Int.emod_lt_of_pos _ (by omega)⟩
  omega
theorem ordR_len {l rest : List Int} {k : Nat} (h : 0 < rest.length) : (ordR l rest k).length + 1 = rest.length := by
  have := (ordJ_lt (l := l) (k := k) h).1
  unfold ordR
  rw [List.length_append, List.length_take, List.length_drop]; omega
def upTo (n : Nat) : List Int := (List.range n).map fun i : Nat => (i : Int)
theorem upTo_len {n : Nat} : (upTo n).length = n := by simp [upTo]
theorem upTo_next {n : Nat} : upTo (n + 1) = upTo n ++ [(n : Int)] := by simp [upTo, List.range_succ]
theorem ordF_step {l rest : List Int} {f k : Nat} (h : 0 < rest.length) : ordF l (f + 1) rest k = (rest.getD (ordJ l rest k) 0 :: (ordF l f (ordR l rest k) (nextK l k rest.length)).1, (ordF l f (ordR l rest k) (nextK l k rest.length)).2) := by
  cases rest with
  | nil => simp at h
  | cons x r => rfl
theorem orderT (l : List Int) (hl : l.length ≤ 17592186044416) (k n : Nat) (hn : n ≤ 1000000) :
    Does Tryz.prog 15 [dkp, I n] (dk l k) (.d (dInts (ordF l n (upTo n) k).1)) (dk l (ordF l n (upTo n) k).2) [] := by
  refine go_make_Order rfl BxOK.one fun cx hm0 => go_in 5000 ?_
  unfold ac_make_Order rs_make_Order
  repeat' (first | simp (maxSteps := 9999999) only [↓GE, PL, PP, EE, QQ, seval] | (simp (disch := omega) only [IntWalk.i64_in]) | (refine go_brD (fun h => ?_) (fun h => ?_)) | (refine go_gsD aE (fun h => ?_) (fun h => ?_)) | (refine go_br (fun h => ?_) (fun h => ?_)) | (refine go_gs aE (fun h => ?_) (fun h => ?_)) | (with_reducible apply And.intro) | exact aG | fail)
  refine go_loopz 5000 hm0 (ι := {q : Nat × Nat // q.1 ≤ n}) (fun q => [(0, dkp), (5, .og 16 q.1.2), (6, .nl 1), (9, I n), (10, I q.1.1)]) (fun q => [(900000, .box 0 [.d (dInts l), I k]), (16, .arr q.1.2 1 true ((upTo q.1.1).map eI))]) (fun q => n - q.1.1) [] [16] ⟨(0, 0), Nat.zero_le _⟩ ?_ ?_
  · simp only [GeZ]; (simp only [GeS]; refine ⟨?_, ?_, ?_, ?_⟩; all_goals (repeat' (first | (with_reducible exact True.intro) | (with_reducible rfl) | simp only [XC, ↓reduceIte, seval] | (with_reducible apply And.intro) | (refine ⟨_, rfl, ?_⟩) | (simp [upTo]; done) | exact aS | fail)))
  rintro ⟨⟨i, v⟩, hi⟩
  simp only at hi ⊢
  by_cases hin : i < n
  · have r1 : decide ((i : Int) < (n : Int)) = true := decide_eq_true (by omega)
    have u1 : IntKind.i64.wrap ((i : Int) + 1) = ((i + 1 : Nat) : Int) := by rw [IntWalk.i64_in _ (by omega)]; omega
    have hul := upTo_len (n := i)
    have hnx := upTo_next (n := i)
    generalize upTo i = UU at *
    repeat' (first | simp (maxSteps := 9999999) only [↓GE, PL, PP, EE, QQ, seval, r1, u1, hul, List.length_map] | (simp (disch := omega) only [IntWalk.i64_in]) | (refine go_brD (fun h => ?_) (fun h => ?_)) | (refine go_gsD aE (fun h => ?_) (fun h => ?_)) | (refine go_br (fun h => ?_) (fun h => ?_)) | (refine go_gs aE (fun h => ?_) (fun h => ?_)) | (with_reducible apply And.intro) | exact aG | fail)
    refine ⟨[], [], ⟨(i + 1, v + 1), hin⟩, ?_, by simp only; omega⟩
    simp only [GeZ]; (simp only [GeS]; refine ⟨?_, ?_, ?_, ?_⟩; all_goals (repeat' (first | (with_reducible exact True.intro) | (with_reducible rfl) | simp only [XC, ↓reduceIte, seval] | (with_reducible apply And.intro) | (refine ⟨_, rfl, ?_⟩) | (simp [hnx, eI]; done) | exact aS | fail)))
  obtain rfl : i = n := by omega
  have r1 : decide ((i : Int) < (i : Int)) = false := decide_eq_false (by omega)
  repeat' (first | simp (maxSteps := 9999999) only [↓GE, PL, PP, EE, QQ, seval, r1] | (simp (disch := omega) only [IntWalk.i64_in]) | (refine go_brD (fun h => ?_) (fun h => ?_)) | (refine go_gsD aE (fun h => ?_) (fun h => ?_)) | (refine go_br (fun h => ?_) (fun h => ?_)) | (refine go_gs aE (fun h => ?_) (fun h => ?_)) | (with_reducible apply And.intro) | exact aG | fail)
  refine go_loopz 5000 hm0 (ι := {q : List Int × List Int × Nat × Nat // q.1.length ≤ i ∧ q.2.1.length ≤ i ∧ q.2.1.length + q.1.length = i ∧ q.2.1 ++ (ordF l q.1.length q.1 q.2.2.1).1 = (ordF l i (upTo i) k).1 ∧ (ordF l q.1.length q.1 q.2.2.1).2 = (ordF l i (upTo i) k).2}) (fun q => [(0, dkp), (5, .d (dInts q.1.1)), (6, .og 31 q.1.2.2.2)]) (fun q => [(900000, .box 0 [.d (dInts l), I q.1.2.2.1]), (31, .arr q.1.2.2.2 1 true (q.1.2.1.map eI))]) (fun q => q.1.1.length) [.og 16 v] [31] ⟨(upTo i, [], k, 0), by rw [upTo_len]; exact Nat.le_refl _, Nat.zero_le _, by rw [upTo_len]; simp, by rw [upTo_len]; rfl, by rw [upTo_len]⟩ ?_ ?_
  · simp only [GeZ]; exact aH
  rintro ⟨⟨rest, out, kk, vv⟩, h1, h2, h3, h4, h5⟩
  simp only at h1 h2 h3 h4 h5 ⊢
  rcases Nat.eq_zero_or_pos rest.length with h0 | h0
  · have hr0 : rest = [] := List.eq_nil_of_length_eq_zero h0
    subst hr0
    have q1 : decide ((0 : Int) < (([] : List Int).length : Int)) = false := rfl
    simp only [List.length_nil, ordF, List.append_nil] at h4 h5
    rw [← h4, ← h5]
    repeat' (first | simp (maxSteps := 9999999) only [↓GE, PL, PP, EE, QQ, seval, q1, List.length_map] | (simp (disch := omega) only [IntWalk.i64_in]) | (refine go_brD (fun h => ?_) (fun h => ?_)) | (refine go_gsD aE (fun h => ?_) (fun h => ?_)) | (refine go_br (fun h => ?_) (fun h => ?_)) | (refine go_gs aE (fun h => ?_) (fun h => ?_)) | (with_reducible apply And.intro) | exact aG | fail)
    ((first | apply ret_mk [] | apply end_mk []); (· exact aR); (· exact aZ); all_goals exact aF)
  · have q1 : decide ((0 : Int) < (rest.length : Int)) = true := decide_eq_true (by omega)
    obtain ⟨hj, hje⟩ := ordJ_lt (l := l) (k := kk) h0
    have e1 := next l hl kk rest.length (by omega)
    rw [hje] at e1
    obtain ⟨f, hf⟩ : ∃ f, rest.length = f + 1 := ⟨rest.length - 1, by omega⟩
    have hst := ordF_step (l := l) (f := f) (k := kk) h0
    rw [hf, hst] at h4 h5
    simp only at h4 h5
    have hrl := ordR_len (l := l) (k := kk) h0
    have hR : ordR l rest kk = rest.take (ordJ l rest kk) ++ rest.drop (ordJ l rest kk + 1) := rfl
    have hs := getD_map eI [] 0 rest (ordJ l rest kk) hj
    have hkk : nextK l kk (f + 1 : Nat) = nextK l kk (rest.length : Nat) := by rw [hf]
    have hRm : (ordR l rest kk).map eI = (rest.map eI).take (ordJ l rest kk) ++ (rest.map eI).drop (ordJ l rest kk + 1) := by rw [hR, List.map_append, List.map_take, List.map_drop]
    generalize ordR l rest kk = RR at *
    generalize hjj : ordJ l rest kk = j at *
    generalize hxx : rest.getD j 0 = x at *
    have w1 : IntKind.i64.wrap ((j : Int) + 1) = ((j + 1 : Nat) : Int) := by rw [IntWalk.i64_in _ (by omega)]; omega
    have hol : (List.map eI out).length ≤ 1000000 := by rw [List.length_map]; omega
    have hlm : (rest.map eI).length = rest.length := List.length_map _
    have hj2 : j + 1 ≤ rest.length := by omega
    have htl : ((rest.map eI).take j).length = j := by rw [List.length_take, hlm]; omega
    have hdl : ((rest.map eI).drop (j + 1)).length = rest.length - (j + 1) := by rw [List.length_drop, hlm]
    have hta : (rest.map eI).take rest.length = rest.map eI := List.take_of_length_le (by omega)
    have hRf : RR.length = f := by omega
    have hno : (out ++ [x]).length = out.length + 1 := by simp
    cases hd : (rest.map eI).drop (j + 1) with
    | nil =>
      rw [hd, List.append_nil] at hRm
      rw [hd] at hdl
      repeat' (first | simp (maxSteps := 9999999) only [↓GE, PL, PP, EE, QQ, seval, q1, w1, hs, hj, hta, hd, htl, eI, List.length_map, Int.toNat_natCast] | (simp (disch := omega) only [IntWalk.i64_in]) | (refine go_brD (fun h => ?_) (fun h => ?_)) | (refine go_gsD aE (fun h => ?_) (fun h => ?_)) | (refine go_br (fun h => ?_) (fun h => ?_)) | (refine go_gs aE (fun h => ?_) (fun h => ?_)) | (apply go_call 5000 (e1) rfl rfl; iterate 4 (first | (exact CallForm.lent aL rfl rfl) | exact aC)) | (with_reducible apply And.intro) | exact aG | fail)
      refine ⟨[], [], ⟨(RR, out ++ [x], nextK l kk rest.length, vv + 1), by simp only; omega, by simp only [hno]; omega, by simp only [hno]; omega, by simp only; rw [hRf, List.append_assoc]; exact h4, by simp only; rw [hRf]; exact h5⟩, ?_, by simp only; omega⟩
      simp only [GeZ]; (simp only [GeS]; refine ⟨?_, ?_, ?_, ?_⟩; all_goals (repeat' (first | (with_reducible exact True.intro) | (with_reducible rfl) | simp only [XC, ↓reduceIte, seval] | (with_reducible apply And.intro) | (refine ⟨_, rfl, ?_⟩) | (simp [hRm, eI]; done) | exact aS | fail)))
    | cons c ns =>
      rw [hd] at hRm
      rw [hd, List.length_cons] at hdl
      repeat' (first | simp (maxSteps := 9999999) only [↓GE, PL, PP, EE, QQ, seval, q1, w1, hs, hj, hta, hd, htl, eI, List.length_map, List.length_cons, Int.toNat_natCast] | (simp (disch := omega) only [IntWalk.i64_in]) | (refine go_brD (fun h => ?_) (fun h => ?_)) | (refine go_gsD aE (fun h => ?_) (fun h => ?_)) | (refine go_br (fun h => ?_) (fun h => ?_)) | (refine go_gs aE (fun h => ?_) (fun h => ?_)) | (apply go_call 5000 (e1) rfl rfl; iterate 4 (first | (exact CallForm.lent aL rfl rfl) | exact aC)) | (with_reducible apply And.intro) | exact aG | fail)
      refine ⟨[.og 40 0], [], ⟨(RR, out ++ [x], nextK l kk rest.length, vv + 1), by simp only; omega, by simp only [hno]; omega, by simp only [hno]; omega, by simp only; rw [hRf, List.append_assoc]; exact h4, by simp only; rw [hRf]; exact h5⟩, ?_, by simp only; omega⟩
      simp only [GeZ]; (simp only [GeS]; refine ⟨?_, ?_, ?_, ?_⟩; all_goals (repeat' (first | (with_reducible exact True.intro) | (with_reducible rfl) | simp only [XC, ↓reduceIte, seval] | (with_reducible apply And.intro) | (refine ⟨_, rfl, ?_⟩) | (simp [hRm, eI]; done) | exact aS | fail)))
end Go.Proofs.YthbhkkdaaipngaaGreatDoor.Sim
end
section
namespace Go.Proofs.YthbhkkdaaipngaaGreatDoor.Sim
open Go Go.RowKit Go.Deep
open Go.Proofs.YthbhkkdaaipngaaGreatDoor.Tw (WCell kn kn_len kn_all kn_next)
set_option maxRecDepth 100000
set_option maxHeartbeats 4000000
set_option linter.unusedVariables false
/-- Two servers are chosen. -/
theorem ord2 (l : List Int) (k : Nat) : ∃ (s1 s2 : Nat) (t : List Int), (ordF l 4 (upTo 4) k).1 = (s1 : Int) :: (s2 : Int) :: t ∧ s1 < 4 ∧ s2 < 4 ∧ s1 ≠ s2 := by
  have hu : upTo 4 = [0, 1, 2, 3] := rfl
  rw [hu, ordF_step (by simp)]
  have hj := (ordJ_lt (l := l) (rest := [0, 1, 2, 3]) (k := k) (by simp)).1
  have hR : ordR l [0, 1, 2, 3] k = [(0 : Int), 1, 2, 3].take (ordJ l [0, 1, 2, 3] k) ++ [(0 : Int), 1, 2, 3].drop (ordJ l [0, 1, 2, 3] k + 1) := rfl
  have hrl := ordR_len (l := l) (rest := [0, 1, 2, 3]) (k := k) (by simp)
  rw [ordF_step (by simp only [List.length_cons, List.length_nil] at hrl; omega)]
  have hj2 := (ordJ_lt (l := l) (rest := ordR l [0, 1, 2, 3] k) (k := nextK l k ([0, 1, 2, 3] : List Int).length) (by simp only [List.length_cons, List.length_nil] at hrl; omega)).1
  simp only
  generalize hjj : ordJ l [0, 1, 2, 3] k = j at *
  rw [hR] at hj2 hrl ⊢
  generalize ordJ l ([(0 : Int), 1, 2, 3].take j ++ [(0 : Int), 1, 2, 3].drop (j + 1)) (nextK l k ([0, 1, 2, 3] : List Int).length) = j2 at *
  have hc : j = 0 ∨ j = 1 ∨ j = 2 ∨ j = 3 := by simp only [List.length_cons, List.length_nil] at hj; omega
  have hc2 : j2 = 0 ∨ j2 = 1 ∨ j2 = 2 := by simp only [List.length_cons, List.length_nil] at hrl hj; omega
  rcases hc with rfl | rfl | rfl | rfl <;> rcases hc2 with rfl | rfl | rfl
  · exact ⟨0, 1, _, rfl, by decide, by decide, by decide⟩
  · exact ⟨0, 2, _, rfl, by decide, by decide, by decide⟩
  · exact ⟨0, 3, _, rfl, by decide, by decide, by decide⟩
  · exact ⟨1, 0, _, rfl, by decide, by decide, by decide⟩
  · exact ⟨1, 2, _, rfl, by decide, by decide, by decide⟩
  · exact ⟨1, 3, _, rfl, by decide, by decide, by decide⟩
  · exact ⟨2, 0, _, rfl, by decide, by decide, by decide⟩
  · exact ⟨2, 1, _, rfl, by decide, by decide, by decide⟩
  · exact ⟨2, 3, _, rfl, by decide, by decide, by decide⟩
  · exact ⟨3, 0, _, rfl, by decide, by decide, by decide⟩
  · exact ⟨3, 1, _, rfl, by decide, by decide, by decide⟩
  · exact ⟨3, 2, _, rfl, by decide, by decide, by decide⟩
/-- What two servers get for a row: their values as one number. -/
def cfC (sec e : Nat) : List Int := [(sec : Int), ((e % 5 : Nat) : Int), ((e / 5 : Nat) : Int)]
def rowC (s1 s2 sec e : Nat) : Int := valF 5 (cfC sec e) ((s1 : Int) + 1) * 5 + valF 5 (cfC sec e) ((s2 : Int) + 1)
def rowI (s1 s2 sec v : Nat) : Nat := ((List.range 25).find? fun e => rowC s1 s2 sec e == (v : Int)).getD 0
def okC (s1 s2 sec : Nat) : Bool := (List.range 25).all fun k => decide (0 ≤ rowC s1 s2 sec k) && decide (rowC s1 s2 sec k < 25) && decide (rowI s1 s2 sec (rowC s1 s2 sec k).toNat = k) && decide (rowI s1 s2 sec k < 25) && decide (rowC s1 s2 sec (rowI s1 s2 sec k) = (k : Int))
theorem okC_all : ((List.range 4).all fun a => (List.range 4).all fun b => a == b || (okC a b 0 && okC a b 1)) = true := by kernel_rfl
theorem okC_bij {s1 s2 sec : Nat} (h1 : s1 < 4) (h2 : s2 < 4) (hne : s1 ≠ s2) (hs : sec < 2) : BijOK 25 (rowC s1 s2 sec) (rowI s1 s2 sec) ∧ ∀ v, v < 25 → rowI s1 s2 sec v < 25 := by
  have h := List.all_eq_true.1 (List.all_eq_true.1 okC_all s1 (List.mem_range.2 h1)) s2 (List.mem_range.2 h2)
  have hb : (s1 == s2) = false := by simpa using hne
  rw [hb, Bool.false_or, Bool.and_eq_true] at h
  have hk : okC s1 s2 sec = true := by
    have hc : sec = 0 ∨ sec = 1 := by omega
    rcases hc with rfl | rfl
    · exact h.1
    · exact h.2
  have h1 : ∀ k, k < 25 → _ := fun k hk2 => List.all_eq_true.1 hk k (List.mem_range.2 hk2)
  simp only [Bool.and_eq_true, decide_eq_true_eq] at h1
  exact ⟨⟨fun k hk => ⟨(h1 k hk).1.1.1.1, (h1 k hk).1.1.1.2⟩, fun k hk => (h1 k hk).1.1.2, fun v hv => (h1 v hv).2⟩, fun v hv => (h1 v hv).1.2⟩
/-- The draws of a tape of a number. -/
def drC (n k : Nat) : List Int := atF (List.replicate (n * 2) 5) (k : Int)
/-- What two servers see, as a number. -/
def vwC (n ix s1 s2 : Nat) (dr : List Int) : Int := vwL 5 (vwL 5 0 (colQ 5 (cfQ ix 2 dr) s1 n)) (colQ 5 (cfQ ix 2 dr) s2 n)
def viewC (n ix s1 s2 k : Nat) : Int := vwC n ix s1 s2 (drC n k)
theorem drC1 (k : Nat) (h : k < 25) : drC 1 k = [((k % 5 : Nat) : Int), ((k / 5 : Nat) : Int)] := by
  have h1 : (k : Int) / 5 % 5 = (k : Int) / 5 := by omega
  simp [drC, List.replicate, atF, h1]
theorem drC2 (k : Nat) (h : k < 625) : drC 2 k = [((k % 25 % 5 : Nat) : Int), ((k % 25 / 5 : Nat) : Int), ((k / 25 % 5 : Nat) : Int), ((k / 25 / 5 : Nat) : Int)] := by
  have h1 : (k : Int) % 5 = ((k % 25 % 5 : Nat) : Int) := by omega
  have h2 : (k : Int) / 5 % 5 = ((k % 25 / 5 : Nat) : Int) := by omega
  have h3 : (k : Int) / 5 / 5 % 5 = ((k / 25 % 5 : Nat) : Int) := by omega
  have h4 : (k : Int) / 5 / 5 / 5 % 5 = ((k / 25 / 5 : Nat) : Int) := by omega
  simp only [drC, List.replicate, atF, h1, h2, h3, h4]
theorem viewC1 {s1 s2 k : Nat} (h : k < 25) : viewC 1 0 s1 s2 k = rowC s1 s2 1 k := by
  unfold viewC vwC
  rw [drC1 k h]
  simp only [colQ, cfQ, vwL, rowC, cfC, List.nil_append]
  simp
theorem viewC2 {ix s1 s2 k : Nat} (h : k < 625) : viewC 2 ix s1 s2 k = (rowC s1 s2 (if 0 = ix then 1 else 0) (k % 25) / 5) * 125 + (rowC s1 s2 (if 1 = ix then 1 else 0) (k / 25) / 5) * 25 + (rowC s1 s2 (if 0 = ix then 1 else 0) (k % 25) % 5) * 5 + rowC s1 s2 (if 1 = ix then 1 else 0) (k / 25) % 5 := by
  have key : ∀ a b : Int, 0 ≤ b ∧ b < 5 → (a * 5 + b) / 5 = a ∧ (a * 5 + b) % 5 = b := fun a b hb => by omega
  have hv : ∀ (f : List Int) (x : Int), 0 ≤ valF 5 f x ∧ valF 5 f x < 5 := fun f x => valF_in (by decide)
  unfold viewC vwC
  rw [drC2 k h]
  simp only [rowC]
  rw [(key _ _ (hv _ _)).1, (key _ _ (hv _ _)).2, (key _ _ (hv _ _)).1, (key _ _ (hv _ _)).2]
  have c0 : cfQ ix 2 [((k % 25 % 5 : Nat) : Int), ((k % 25 / 5 : Nat) : Int), ((k / 25 % 5 : Nat) : Int), ((k / 25 / 5 : Nat) : Int)] 0 = cfC (if 0 = ix then 1 else 0) (k % 25) := by
    simp only [cfQ, cfC]
    split <;> rfl
  have c1 : cfQ ix 2 [((k % 25 % 5 : Nat) : Int), ((k % 25 / 5 : Nat) : Int), ((k / 25 % 5 : Nat) : Int), ((k / 25 / 5 : Nat) : Int)] 1 = cfC (if 1 = ix then 1 else 0) (k / 25) := by
    simp only [cfQ, cfC]
    split <;> rfl
  simp only [colQ, c0, c1, List.nil_append, List.cons_append, vwL]
  omega
/-- Digits in another order. -/
def shf (k : Nat) : Nat := k / 25 / 5 * 125 + k % 25 / 5 * 25 + k / 25 % 5 * 5 + k % 25 % 5
theorem shf_all : ((List.range 625).all fun k => decide (shf k < 625) && decide (shf (shf k) = k)) = true := by kernel_rfl
theorem shf_ok {k : Nat} (h : k < 625) : shf k < 625 ∧ shf (shf k) = k := by
  have := List.all_eq_true.1 shf_all k (List.mem_range.2 h)
  simpa using this
theorem viewC_bij {n ix s1 s2 : Nat} (hn : n = 1 ∨ n = 2) (hi : ix < n) (h1 : s1 < 4) (h2 : s2 < 4) (hne : s1 ≠ s2) : cntN (viewC n ix s1 s2) (25 ^ n) (25 ^ n) = List.replicate (25 ^ n) 1 ∧ ∀ k, k < 25 ^ n → 0 ≤ viewC n ix s1 s2 k ∧ viewC n ix s1 s2 k < ((25 ^ n : Nat) : Int) := by
  rcases hn with rfl | rfl
  · obtain rfl : ix = 0 := by omega
    obtain ⟨f1, f2⟩ := okC_bij h1 h2 hne (sec := 1) (by decide)
    have hb : BijOK 25 (viewC 1 0 s1 s2) (rowI s1 s2 1) := ⟨fun k hk => by rw [viewC1 hk]; exact f1.lo k hk, fun k hk => by rw [viewC1 hk]; exact f1.li k hk, fun v hv => by rw [viewC1 (f2 v hv)]; exact f1.ri v hv⟩
    exact ⟨inv_lt hb f2, hb.lo⟩
  · obtain ⟨f1, f2⟩ := okC_bij h1 h2 hne (sec := if 0 = ix then 1 else 0) (by split <;> decide)
    obtain ⟨g1, g2⟩ := okC_bij h1 h2 hne (sec := if 1 = ix then 1 else 0) (by split <;> decide)
    obtain ⟨p1, p2⟩ := bij_pair f1 g1 f2 g2
    have hview : ∀ k, k < 625 → ∃ c : Nat, c < 625 ∧ rowC s1 s2 (if 0 = ix then 1 else 0) (k % 25) * ((25 : Nat) : Int) + rowC s1 s2 (if 1 = ix then 1 else 0) (k / 25) = (c : Int) ∧ viewC 2 ix s1 s2 k = (shf c : Int) := fun k hk => by
      have a1 := f1.lo (k % 25) (by omega)
      have a2 := g1.lo (k / 25) (by omega)
      rw [viewC2 hk]
      obtain ⟨x, hx⟩ := Int.eq_ofNat_of_zero_le a1.1
      obtain ⟨y, hy⟩ := Int.eq_ofNat_of_zero_le a2.1
      rw [hx] at a1
      rw [hy] at a2
      rw [hx, hy]
      have hx2 : x < 25 := by omega
      have hy2 : y < 25 := by omega
      have d1 : (x * 25 + y) / 25 = x := by omega
      have d2 : (x * 25 + y) % 25 = y := by omega
      refine ⟨x * 25 + y, by omega, by push_cast; omega, ?_⟩
      unfold shf
      rw [d1, d2]
      push_cast
      omega
    have hb : BijOK 625 (viewC 2 ix s1 s2) (fun v => (fun v => rowI s1 s2 (if 0 = ix then 1 else 0) (v / 25) + 25 * rowI s1 s2 (if 1 = ix then 1 else 0) (v % 25)) (shf v)) := by
      refine ⟨fun k hk => ?_, fun k hk => ?_, fun v hv => ?_⟩
      · obtain ⟨c, hc, e1, e2⟩ := hview k hk
        rw [e2]
        have := (shf_ok hc).1
        omega
      · obtain ⟨c, hc, e1, e2⟩ := hview k hk
        have := p1.li k hk
        simp only [e1, Int.toNat_natCast] at this
        simp only [e2, Int.toNat_natCast, (shf_ok hc).2]
        exact this
      · have hs := shf_ok hv
        have hlt := p2 (shf v) hs.1
        obtain ⟨c, hc, e1, e2⟩ := hview _ hlt
        have := p1.ri (shf v) hs.1
        simp only [e1] at this
        have hcv : c = shf v := by omega
        simp only [e2, hcv, hs.2]
    exact ⟨inv_lt hb fun v hv => p2 _ (shf_ok hv).1, hb.lo⟩
end Go.Proofs.YthbhkkdaaipngaaGreatDoor.Sim
end
section
namespace Go.Proofs.YthbhkkdaaipngaaGreatDoor.Sim
open Go Go.RowKit Go.Deep
open Go.Proofs.YthbhkkdaaipngaaGreatDoor.Tw (WCell kn kn_len kn_all kn_next)
set_option maxRecDepth 100000
set_option maxHeartbeats 4000000
set_option linter.unusedVariables false
/-- A word of four values. -/
def wordC (sec e : Nat) : List WCell := (List.range 4).map fun s : Nat => ⟨valF 5 (cfC sec e) ((s : Int) + 1), true⟩
def wantB (sec e : Nat) : Bool := decB 5 (wordC sec e) 3 && (wrN 5 (decP 5 (wordC sec e) 3) 0 (wordC sec e)).isEmpty && decide ((decP 5 (wordC sec e) 3).getD 0 0 = (sec : Int))
theorem wantB_all : ((List.range 25).all fun e => wantB 0 e && wantB 1 e) = true := by kernel_rfl
theorem want_of {sec e : Nat} (hs : sec < 2) (he : e < 25) : DecOK 5 (wordC sec e) 3 ∧ wrN 5 (decP 5 (wordC sec e) 3) 0 (wordC sec e) = [] ∧ (decP 5 (wordC sec e) 3).getD 0 0 = (sec : Int) := by
  have h := List.all_eq_true.1 wantB_all e (List.mem_range.2 he)
  rw [Bool.and_eq_true] at h
  have hk : wantB sec e = true := by
    have hc : sec = 0 ∨ sec = 1 := by omega
    rcases hc with rfl | rfl
    · exact h.1
    · exact h.2
  unfold wantB at hk
  simp only [Bool.and_eq_true, List.isEmpty_iff, decide_eq_true_eq] at hk
  exact ⟨decB_ok hk.1.1, hk.1.2, hk.2⟩
/-- The queries of a read. -/
def qsC (n ix k : Nat) : List (List Int) := [colQ 5 (cfQ ix 2 (drC n k)) 0 n, colQ 5 (cfQ ix 2 (drC n k)) 1 n, colQ 5 (cfQ ix 2 (drC n k)) 2 n, colQ 5 (cfQ ix 2 (drC n k)) 3 n]
theorem colQ_get {p : Int} {cf : Nat → List Int} {k : Nat} : ∀ {n i : Nat}, i < n → (colQ p cf k n).getD i 0 = valF p (cf i) ((k : Int) + 1)
  | 0, i, h => by omega
  | n + 1, i, h => by
    rw [colQ, List.getD_eq_getElem?_getD]
    by_cases hi : i < n
    · rw [List.getElem?_append_left (by rw [colQ_len]; exact hi), ← List.getD_eq_getElem?_getD, colQ_get hi]
    · obtain rfl : i = n := by omega
      rw [List.getElem?_append_right (by rw [colQ_len]; exact Nat.le_refl _), colQ_len, Nat.sub_self]
      rfl
/-- The draws of a row. -/
theorem cfQ_row {n ix k i : Nat} (hn : n = 1 ∨ n = 2) (hk : k < 25 ^ n) (hi : i < n) : ∃ e : Nat, e < 25 ∧ cfQ ix 2 (drC n k) i = cfC (if i = ix then 1 else 0) e := by
  rcases hn with rfl | rfl
  · obtain rfl : i = 0 := by omega
    refine ⟨k, hk, ?_⟩
    rw [drC1 k hk]
    simp only [cfQ, cfC]
    split <;> rfl
  · have hc : i = 0 ∨ i = 1 := by omega
    rcases hc with rfl | rfl
    · refine ⟨k % 25, by omega, ?_⟩
      rw [drC2 k hk]
      simp only [cfQ, cfC]
      split <;> rfl
    · refine ⟨k / 25, by omega, ?_⟩
      rw [drC2 k hk]
      simp only [cfQ, cfC]
      split <;> rfl
theorem colC_qs {n ix k i : Nat} (hn : n = 1 ∨ n = 2) (hk : k < 25 ^ n) (hi : i < n) : ∃ e : Nat, e < 25 ∧ colC i (qAns (qsC n ix k)) = wordC (if i = ix then 1 else 0) e := by
  obtain ⟨e, he, hcf⟩ := cfQ_row (ix := ix) hn hk hi
  refine ⟨e, he, ?_⟩
  have hg : ∀ s : Nat, (colQ 5 (cfQ ix 2 (drC n k)) s n).getD i 0 = valF 5 (cfC (if i = ix then 1 else 0) e) ((s : Int) + 1) := fun s => by rw [colQ_get hi, hcf]
  have h0 := hg 0
  have h1 := hg 1
  have h2 := hg 2
  have h3 := hg 3
  simp only [colC, qAns, qsC, List.map_cons, List.map_nil, if_true, h0, h1, h2, h3]
  rfl
theorem want_row {n ix k i : Nat} (hn : n = 1 ∨ n = 2) (hk : k < 25 ^ n) (hi : i < n) : DecOK 5 (colC i (qAns (qsC n ix k))) 3 ∧ wrN 5 (decP 5 (colC i (qAns (qsC n ix k))) 3) 0 (colC i (qAns (qsC n ix k))) = [] ∧ (decP 5 (colC i (qAns (qsC n ix k))) 3).getD 0 0 = if i = ix then 1 else 0 := by
  obtain ⟨e, he, hc⟩ := colC_qs (ix := ix) hn hk hi
  obtain ⟨h1, h2, h3⟩ := want_of (sec := if i = ix then 1 else 0) (by split <;> decide) he
  rw [hc]
  refine ⟨h1, h2, ?_⟩
  rw [h3]
  split <;> rfl
theorem want_cols {n ix k : Nat} (hn : n = 1 ∨ n = 2) (hk : k < 25 ^ n) (hix : ix < n) : ColsOK 5 3 n (qAns (qsC n ix k)) ∧ oneF 0 0 false (heads (polysF 5 3 n (qAns (qsC n ix k)))) = (ix, true) := by
  have hw : wrgsF 5 3 n (qAns (qsC n ix k)) = [] := by
    unfold wrgsF
    rw [List.flatMap_eq_nil_iff]
    exact fun i hi => (want_row hn hk (List.mem_range.1 hi)).2.1
  refine ⟨⟨fun i hi => (want_row hn hk hi).1, by rw [hw]; decide, by rw [hw]; intro i hi; simp [sortF, sorts] at hi⟩, ?_⟩
  have hh : heads (polysF 5 3 n (qAns (qsC n ix k))) = (List.range n).map fun i => if i = ix then (1 : Int) else 0 := by
    unfold heads polysF
    rw [List.map_map]
    refine List.map_congr_left fun i hi => ?_
    exact (want_row hn hk (List.mem_range.1 hi)).2.2
  rw [hh]
  have hc : (n = 1 ∧ ix = 0) ∨ (n = 2 ∧ ix = 0) ∨ (n = 2 ∧ ix = 1) := by omega
  rcases hc with ⟨rfl, rfl⟩ | ⟨rfl, rfl⟩ | ⟨rfl, rfl⟩ <;> decide
end Go.Proofs.YthbhkkdaaipngaaGreatDoor.Sim
end
