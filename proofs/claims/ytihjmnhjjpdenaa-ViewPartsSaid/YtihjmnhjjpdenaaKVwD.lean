/- Queries of the first kind of the document. -/
import Derived.Test.YtihjmnhjjpdenaaKVwC
namespace Go.Proofs.Ytihjmnhjjpdenaa.Sim
open Go
set_option maxRecDepth 100000
set_option maxHeartbeats 4000000
set_option linter.unusedVariables false
set_option linter.unusedSimpArgs false
attribute [local irreducible] Go Mean
def lastI (p : Int) (x last : List Int) : Nat → List Int
  | 0 => last
  | i + 1 => (lastI p x last i).set i (((lastI p x last i).getD i 0 + p - x.getD i 0).tmod p)
theorem lastI_len {p : Int} {x last : List Int} : ∀ {i : Nat}, (lastI p x last i).length = last.length
  | 0 => rfl
  | i + 1 => by rw [lastI, List.length_set, lastI_len]
theorem tmod_in {p x : Int} (hp : 1 ≤ p) (hx : 0 ≤ x) : 0 ≤ x.tmod p ∧ x.tmod p < p := by
  rw [Int.tmod_eq_emod_of_nonneg hx]
  exact ⟨Int.emod_nonneg _ (by omega), Int.emod_lt_of_pos _ (by omega)⟩
theorem inF.set {p : Int} {l : List Int} (h : inF p l) (i : Nat) {x : Int} (hx : 0 ≤ x ∧ x < p) : inF p (l.set i x) := fun y hy => by
  rcases List.mem_or_eq_of_mem_set hy with h1 | rfl
  · exact h y h1
  · exact hx
theorem lastI_in {p : Int} (hp : okP p) {x last : List Int} (hx : inF p x) (hl : inF p last) (hn : x.length = last.length) : ∀ {i : Nat}, i ≤ x.length → inF p (lastI p x last i)
  | 0, _ => hl
  | i + 1, hi => by
    have ih := lastI_in hp hx hl hn (i := i) (by omega)
    have := hp.le
    have h1 := ih.get (k := i) (by rw [lastI_len]; omega)
    have h2 := hx.get (k := i) (by omega)
    exact ih.set i (tmod_in (by omega) (by omega))
def part16 (rows : Nat) (l : List Int) (j : Nat) : List Int := (l.drop (j * rows)).take rows
def lastG (p : Int) (rows ix : Nat) (l : List Int) : Nat → List Int
  | 0 => (List.replicate rows 0).set ix 1
  | j + 1 => lastI p (part16 rows l j) (lastG p rows ix l j) rows
theorem lastG_len {p : Int} {rows ix : Nat} {l : List Int} : ∀ {j : Nat}, (lastG p rows ix l j).length = rows
  | 0 => by simp [lastG]
  | j + 1 => by rw [lastG, lastI_len, lastG_len]
theorem part16_in {p : Int} {rows : Nat} {l : List Int} (h : inF p l) (j : Nat) : inF p (part16 rows l j) := fun y hy => h y (List.mem_of_mem_drop (List.mem_of_mem_take hy))
theorem part16_len {rows sv : Nat} {l : List Int} (h : l.length = rows * (sv - 1)) {j : Nat} (hj : j < sv - 1) : (part16 rows l j).length = rows ∧ (j + 1) * rows ≤ l.length := by
  have h1 : (j + 1) * rows ≤ rows * (sv - 1) := by rw [Nat.mul_comm rows]; exact Nat.mul_le_mul_right rows (by omega)
  have h2 : (j + 1) * rows = j * rows + rows := by rw [Nat.add_mul, Nat.one_mul]
  refine ⟨?_, by omega⟩
  rw [part16, List.length_take, List.length_drop]
  omega
theorem lastG_in {p : Int} (hp : okP p) {rows ix sv : Nat} {l : List Int} (hl : inF p l) (h : l.length = rows * (sv - 1)) : ∀ {j : Nat}, j ≤ sv - 1 → inF p (lastG p rows ix l j)
  | 0, _ => by
    have := hp.le
    refine inF.set (fun y hy => ?_) ix ⟨by omega, by omega⟩
    obtain rfl := List.eq_of_mem_replicate hy
    omega
  | j + 1, hj => by
    have h1 := (part16_len h (j := j) (by omega)).1
    rw [lastG]
    refine lastI_in hp (part16_in hl j) (lastG_in hp hl h (j := j) (by omega)) (by rw [h1, lastG_len]) (by omega)
def outG (rows : Nat) (l : List Int) : Nat → List (List Int)
  | 0 => []
  | j + 1 => outG rows l j ++ [part16 rows l j]
theorem outG_len {rows : Nat} {l : List Int} : ∀ {j : Nat}, (outG rows l j).length = j
  | 0 => rfl
  | j + 1 => by rw [outG]; simp [outG_len]
theorem outG_ok {p : Int} {rows sv : Nat} {l : List Int} (hl : inF p l) (h : l.length = rows * (sv - 1)) : ∀ {j : Nat}, j ≤ sv - 1 → ∀ q ∈ outG rows l j, q.length = rows ∧ inF p q
  | 0, _, q, hq => by simp [outG] at hq
  | j + 1, hj, q, hq => by
    rw [outG] at hq
    rcases List.mem_append.1 hq with hq | hq
    · exact outG_ok hl h (by omega) q hq
    · obtain rfl := List.mem_singleton.1 hq
      exact ⟨(part16_len h (by omega)).1, part16_in hl j⟩
def q16 (p : Int) (rows sv ix : Nat) (l : List Int) : List (List Int) := outG rows l (sv - 1) ++ [lastG p rows ix l (sv - 1)]
theorem replicate_map {α β : Type} (f : α → β) (n : Nat) (x : α) : List.replicate n (f x) = (List.replicate n x).map f := by simp
theorem queries16 {p : Int} (hp : okP p) (rows sv ix : Nat) (h1 : 1 ≤ rows) (h2 : rows ≤ 4) (h3 : 3 ≤ sv) (h4 : sv ≤ 6) (hix : ix < rows) (t : List Int) (a : Nat) (ht : t.length ≤ 16384) (ha : a + rows * (sv - 1) ≤ t.length) (hin : inF p t) :
    Does Try.prog 59 [.ag [I p], I rows, I sv, I ix, vTape t a] [] (.tu [.d (dRows (q16 p rows sv ix ((t.drop a).take (rows * (sv - 1))))), vTape t ((a + rows * (sv - 1) : Nat) : Int), I 0]) [] [] := by
  refine go_ref16_Queries rfl BxOK.nil fun cx hm0 => go_in 5000 ?_
  unfold ac_ref16_Queries rs_ref16_Queries
  have hpl := hp.le
  have e1 := limits16 hp rows sv h1 h2 h3 h4
  have e2 := draws2 (p := p) (by omega) (by omega) t a (rows * (sv - 1)) ht ha hin
  have hm : rows * (sv - 1) ≤ 20 := Nat.mul_le_mul h2 (show sv - 1 ≤ 5 by omega)
  have w0 : IntKind.i64.wrap ((sv : Int) - 1) = ((sv - 1 : Nat) : Int) := by rw [show (sv : Int) - 1 = ((sv - 1 : Nat) : Int) by omega]; exact IntWalk.i64_in _ (by omega)
  have w1 : IntKind.i64.wrap ((rows : Int) * ((sv - 1 : Nat) : Int)) = ((rows * (sv - 1) : Nat) : Int) := by rw [← Int.natCast_mul]; exact IntWalk.i64_in _ (by omega)
  have q1 : decide ((ix : Int) < 0) = false := decide_eq_false (by omega)
  have q2 : decide ((ix : Int) ≥ (rows : Int)) = false := decide_eq_false (by omega)
  have hdl : ((t.drop a).take (rows * (sv - 1))).length = rows * (sv - 1) := by rw [List.length_take, List.length_drop]; omega
  have hdi : inF p ((t.drop a).take (rows * (sv - 1))) := fun y hy => hin y (List.mem_of_mem_drop (List.mem_of_mem_take hy))
  generalize (t.drop a).take (rows * (sv - 1)) = dr at *
  have hg : (List.replicate rows [D.at (.int .i64 0)]).getD ix [] = [D.at (.int .i64 0)] := by
    rw [List.getD_eq_getElem?_getD, List.getElem?_replicate, if_pos hix]; rfl
  have hq0 : (List.replicate rows [D.at (.int .i64 0)]).set ix [D.at (.int .i64 1)] = (lastG p rows ix dr 0).map eI := by rw [lastG, List.map_set, List.map_replicate]; rfl
  repeat' (first | simp (maxSteps := 9999999) only [↓GE, PL, PP, EE, QQ, seval, w0, w1, q1, q2, hix, hg, hq0, eI, List.drop_succ_cons, List.drop_zero, List.length_map, List.length_replicate] | (simp (disch := omega) only [IntWalk.i64_in]) | (refine go_brD (fun h => ?_) (fun h => ?_)) | (refine go_gsD (by ((try simp only [EE, QQ, seval]) <;> rfl)) (fun h => ?_) (fun h => ?_)) | (refine go_br (fun h => ?_) (fun h => ?_)) | (refine go_gs (by ((try simp only [EE, QQ, seval]) <;> rfl)) (fun h => ?_) (fun h => ?_)) | (apply go_call 5000 (e1) rfl rfl; (· ((try simp only [CC, LL, NM, EE, QQ, seval]) <;> (first | rfl | ((repeat constructor); done)))); (· exact CallForm.plain rfl); (· ((try simp only [CC, LL, NM, EE, QQ, seval]) <;> (first | rfl | ((repeat constructor); done)))); (· ((try simp only [CC, LL, NM, EE, QQ, seval]) <;> (first | rfl | ((repeat constructor); done))))) | (apply go_call 5000 (e2) rfl rfl; (· ((try simp only [CC, LL, NM, EE, QQ, seval]) <;> (first | rfl | ((repeat constructor); done)))); (· exact CallForm.plain rfl); (· ((try simp only [CC, LL, NM, EE, QQ, seval]) <;> (first | rfl | ((repeat constructor); done)))); (· ((try simp only [CC, LL, NM, EE, QQ, seval]) <;> (first | rfl | ((repeat constructor); done))))) | (with_reducible apply And.intro) | (with_reducible exact trivial) | omega | (simp only [List.length_map, List.length_cons, List.length_nil] at *; omega) | (show _ = true; first | rfl | kernel_rfl))
  refine go_loopz 5000 hm0 (ι := {q : Nat × Nat // q.1 ≤ sv - 1}) (fun i => [(1, I rows), (2, I sv), (5, .bp 5 0 0), (9, .bp 9 0 0), (11, .bp 11 0 0), (15, .d (dInts dr)), (17, .og 59 0), (18, .og 105 i.1.2), (19, I i.1.1)]) (fun i => [(5, .box 0 [I p]), (9, .box 0 [.d (dInts t), I ((a + rows * (sv - 1) : Nat) : Int)]), (11, .box 0 [.nl 1, I 0]), (59, .arr 0 1 true ((lastG p rows ix dr i.1.1).map eI)), (105, .arr i.1.2 1 true ((outG rows dr i.1.1).map eR))]) (fun i => sv - 1 - i.1.1) [] [105] ⟨(0, 0), Nat.zero_le _⟩ ?_ ?_
  · simp only [GeZ]; (simp only [GeS]; refine ⟨?_, ?_, ?_, ?_⟩; all_goals (repeat' (first | (with_reducible exact True.intro) | (with_reducible rfl) | simp only [CC, LL, EE, QQ, seval, List.contains_nil, Bool.false_eq_true, ↓reduceIte, Option.some.injEq, O.arr.injEq, true_and, and_true] | (with_reducible apply And.intro) | (refine ⟨_, rfl, ?_⟩) | (simp [outG, hq0, hg, eI]; done) | rfl | omega | trivial)))
  rintro ⟨⟨j, v⟩, hj⟩
  simp only at hj
  have hol := outG_len (rows := rows) (l := dr) (j := j)
  by_cases hjn : j < sv - 1
  · have q3 : decide ((j : Int) < ((sv - 1 : Nat) : Int)) = true := decide_eq_true (by omega)
    have hpl2 := part16_len hdl hjn
    have hjr : (j + 1) * rows = j * rows + rows := by rw [Nat.add_mul, Nat.one_mul]
    have w2 : IntKind.i64.wrap ((j : Int) * (rows : Int)) = ((j * rows : Nat) : Int) := by rw [← Int.natCast_mul]; exact IntWalk.i64_in _ (by omega)
    have w3 : IntKind.i64.wrap ((j : Int) + 1) = ((j + 1 : Nat) : Int) := by rw [show (j : Int) + 1 = ((j + 1 : Nat) : Int) by omega]; exact IntWalk.i64_in _ (by omega)
    have w4 : IntKind.i64.wrap (((j + 1 : Nat) : Int) * (rows : Int)) = (((j + 1) * rows : Nat) : Int) := by rw [← Int.natCast_mul]; exact IntWalk.i64_in _ (by omega)
    have hpt : (((dr.map eI).take ((j + 1) * rows)).drop (j * rows)) = (part16 rows dr j).map eI := by
      rw [part16, ← List.map_take, ← List.map_drop, List.drop_take, hjr, Nat.add_sub_cancel_left]
    have hL : lastG p rows ix dr (j + 1) = lastI p (part16 rows dr j) (lastG p rows ix dr j) rows := rfl
    have hO : outG rows dr (j + 1) = outG rows dr j ++ [part16 rows dr j] := rfl
    have hLl := lastG_len (p := p) (rows := rows) (ix := ix) (l := dr) (j := j)
    have hLi := lastG_in (ix := ix) hp hdi hdl (j := j) (by omega)
    have hPi := part16_in (rows := rows) hdi j
    generalize part16 rows dr j = x at *
    have hxl := hpl2.1
    have hxr := hpl2.2
    repeat' (first | simp (maxSteps := 9999999) only [↓GE, PL, PP, EE, QQ, seval, q3, w2, w3, w4, hpt, hxl, List.length_map] | (simp (disch := omega) only [IntWalk.i64_in]) | (refine go_brD (fun h => ?_) (fun h => ?_)) | (refine go_gsD (by ((try simp only [EE, QQ, seval]) <;> rfl)) (fun h => ?_) (fun h => ?_)) | (refine go_br (fun h => ?_) (fun h => ?_)) | (refine go_gs (by ((try simp only [EE, QQ, seval]) <;> rfl)) (fun h => ?_) (fun h => ?_)) | (with_reducible apply And.intro) | (with_reducible exact trivial) | omega | (simp only [List.length_map, List.length_cons, List.length_nil] at *; omega) | (show _ = true; first | rfl | kernel_rfl))
    refine go_loop 5000 hm0 (ι := {i : Nat // i ≤ rows}) (fun i => [(1, I rows), (2, I sv), (5, .bp 5 0 0), (9, .bp 9 0 0), (11, .bp 11 0 0), (15, .d (dInts dr)), (17, .og 59 0), (18, .og 105 v), (19, I j), (20, .og 78 0), (79, .og 78 0), (80, I rows), (81, I i.1)]) (fun i => [(5, .box 0 [I p]), (9, .box 0 [.d (dInts t), I ((a + rows * (sv - 1) : Nat) : Int)]), (11, .box 0 [.nl 1, I 0]), (59, .arr 0 1 true ((lastI p x (lastG p rows ix dr j) i.1).map eI)), (78, .arr 0 1 true (x.map eI)), (105, .arr v 1 true ((outG rows dr j).map eR))]) (fun i => rows - i.1) [] ⟨0, Nat.zero_le _⟩ ?_ ?_
    · (simp only [GeS]; refine ⟨?_, ?_, ?_, ?_⟩; all_goals (repeat' (first | (with_reducible exact True.intro) | (with_reducible rfl) | simp only [CC, LL, EE, QQ, seval, List.contains_nil, Bool.false_eq_true, ↓reduceIte, Option.some.injEq, O.arr.injEq, true_and, and_true] | (with_reducible apply And.intro) | (refine ⟨_, rfl, ?_⟩) | (simp [lastI, hxl]; done) | rfl | omega | trivial)))
    rintro ⟨i, hi⟩
    have hil := lastI_len (p := p) (x := x) (last := lastG p rows ix dr j) (i := i)
    by_cases hir : i < rows
    · have hI : lastI p x (lastG p rows ix dr j) (i + 1) = (lastI p x (lastG p rows ix dr j) i).set i (((lastI p x (lastG p rows ix dr j) i).getD i 0 + p - x.getD i 0).tmod p) := rfl
      have hin1 := (lastI_in hp hPi hLi (by omega) (i := i) (by omega)).get (k := i) (by omega)
      have hs1 := getD_map eI [] 0 (lastI p x (lastG p rows ix dr j) i) i (by omega)
      have hs2 := getD_map eI [] 0 x i (by omega)
      have hin2 := hPi.get (k := i) (by omega)
      have hlm : i < (lastI p x (lastG p rows ix dr j) i).length := by omega
      generalize lastI p x (lastG p rows ix dr j) i = cur at *
      generalize cur.getD i 0 = y at *
      generalize x.getD i 0 = z at *
      have hm1 := tmod_in (p := p) (x := y + p - z) (by omega) (by omega)
      have w5 : IntKind.i64.wrap (y + p) = y + p := IntWalk.i64_in _ (by omega)
      have w6 : IntKind.i64.wrap (y + p - z) = y + p - z := IntWalk.i64_in _ (by omega)
      have w7 : IntKind.i64.wrap ((y + p - z).tmod p) = (y + p - z).tmod p := IntWalk.i64_in _ (by omega)
      have hp0 : p ≠ 0 := by omega
      have q4 : decide ((i : Int) < (rows : Int)) = true := decide_eq_true (by omega)
      have hset : (cur.map eI).set i [D.at (.int .i64 ((y + p - z).tmod p))] = (lastI p x (lastG p rows ix dr j) (i + 1)).map eI := by rw [hI, List.map_set]; rfl
      repeat' (first | simp (maxSteps := 9999999) only [↓GE, PL, PP, EE, QQ, seval, q4, hs1, hs2, w5, w6, w7, hp0, hxl, hlm, hir, eI, List.length_map, List.drop_succ_cons, List.drop_zero] | (simp (disch := omega) only [IntWalk.i64_in]) | (refine go_brD (fun h => ?_) (fun h => ?_)) | (refine go_gsD (by ((try simp only [EE, QQ, seval]) <;> rfl)) (fun h => ?_) (fun h => ?_)) | (refine go_br (fun h => ?_) (fun h => ?_)) | (refine go_gs (by ((try simp only [EE, QQ, seval]) <;> rfl)) (fun h => ?_) (fun h => ?_)) | (with_reducible apply And.intro) | (with_reducible exact trivial) | omega | (simp only [List.length_map, List.length_cons, List.length_nil] at *; omega) | (show _ = true; first | rfl | kernel_rfl))
      refine ⟨⟨i + 1, hir⟩, ?_, by simp only; omega⟩
      (simp only [GeS]; refine ⟨?_, ?_, ?_, ?_⟩; all_goals (repeat' (first | (with_reducible exact True.intro) | (with_reducible rfl) | simp only [CC, LL, EE, QQ, seval, List.contains_nil, Bool.false_eq_true, ↓reduceIte, Option.some.injEq, O.arr.injEq, true_and, and_true] | (with_reducible apply And.intro) | (refine ⟨_, rfl, ?_⟩) | (simp [hset, eI]; done) | rfl | omega | trivial)))
    · obtain rfl : i = rows := by omega
      have q4 : decide ((i : Int) < (i : Int)) = false := decide_eq_false (by omega)
      repeat' (first | simp (maxSteps := 9999999) only [↓GE, PL, PP, EE, QQ, seval, q4, hol, List.length_map] | (simp (disch := omega) only [IntWalk.i64_in]) | (refine go_brD (fun h => ?_) (fun h => ?_)) | (refine go_gsD (by ((try simp only [EE, QQ, seval]) <;> rfl)) (fun h => ?_) (fun h => ?_)) | (refine go_br (fun h => ?_) (fun h => ?_)) | (refine go_gs (by ((try simp only [EE, QQ, seval]) <;> rfl)) (fun h => ?_) (fun h => ?_)) | (with_reducible apply And.intro) | (with_reducible exact trivial) | omega | (simp only [List.length_map, List.length_cons, List.length_nil] at *; omega) | (show _ = true; first | rfl | kernel_rfl))
      refine ⟨[], [], ⟨(j + 1, v + 1), hjn⟩, ?_, by simp only; omega⟩
      simp only [GeZ]; (simp only [GeS]; refine ⟨?_, ?_, ?_, ?_⟩; all_goals (repeat' (first | (with_reducible exact True.intro) | (with_reducible rfl) | simp only [CC, LL, EE, QQ, seval, List.contains_nil, Bool.false_eq_true, ↓reduceIte, Option.some.injEq, O.arr.injEq, true_and, and_true] | (with_reducible apply And.intro) | (refine ⟨_, rfl, ?_⟩) | (simp [hL, hO, eR]; done) | rfl | omega | trivial)))
  · obtain rfl : j = sv - 1 := by omega
    have q3 : decide (((sv - 1 : Nat) : Int) < ((sv - 1 : Nat) : Int)) = false := decide_eq_false (by omega)
    repeat' (first | simp (maxSteps := 9999999) only [↓GE, PL, PP, EE, QQ, seval, q3, w0, List.length_map] | (simp (disch := omega) only [IntWalk.i64_in]) | (refine go_brD (fun h => ?_) (fun h => ?_)) | (refine go_gsD (by ((try simp only [EE, QQ, seval]) <;> rfl)) (fun h => ?_) (fun h => ?_)) | (refine go_br (fun h => ?_) (fun h => ?_)) | (refine go_gs (by ((try simp only [EE, QQ, seval]) <;> rfl)) (fun h => ?_) (fun h => ?_)) | (with_reducible apply And.intro) | (with_reducible exact trivial) | omega | (simp only [List.length_map, List.length_cons, List.length_nil] at *; omega) | (show _ = true; first | rfl | kernel_rfl))
    all_goals ((first | apply ret_mk [] | apply end_mk []); (· ((try simp only [CC, LL, EE, QQ, seval]) <;> rfl)); (· ((try simp only [CC, LL, EE, QQ, seval]) <;> repeat' (first | (with_reducible apply And.intro) | rfl | trivial | (exact ⟨_, rfl⟩) | (exact ⟨_, _, _, rfl⟩) | (simp [*, q16, eR]; done) | (simp [*, q16, eR]; omega) | (simp_all [q16, eR]; done) | (simp_all [q16, eR]; omega)))); all_goals (first | trivial | decide | ((try simp only [CC, LL, EE, QQ, seval]) <;> repeat' (first | (with_reducible apply And.intro) | (exact ⟨_, rfl, rfl, rfl⟩) | (exact ⟨_, _, _, rfl⟩) | (exact ⟨_, rfl⟩) | trivial | rfl | (simp; done)))))
end Go.Proofs.Ytihjmnhjjpdenaa.Sim
