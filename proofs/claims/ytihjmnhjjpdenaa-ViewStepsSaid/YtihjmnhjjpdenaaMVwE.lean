/- Queries of the second kind of the document. -/
import Derived.Test.YtihjmnhjjpdenaaMVwC
import Derived.Test.YtihjmnhjjpdenaaMSimZ
import Derived.Test.YtihjmnhjjpdenaaMSimJn
section
namespace Go.Proofs.Ytihjmnhjjpdenaa.Sim
open Go
set_option maxRecDepth 100000
set_option maxHeartbeats 4000000
set_option linter.unusedVariables false
set_option linter.unusedSimpArgs false
attribute [local irreducible] Go Mean
def lastI (p : Int) (x last : List Int) : Nat → List Int
  | 0 => last
  | i + 1 => (lastI p x last i).set i (((lastI p x last i).getD i 0 + p - x.getD i 0).tmod p)
theorem lastI_len {p : Int} {x last : List Int} : ∀ {i : Nat}, (lastI p x last i).length = last.length
  | 0 => rfl
  | i + 1 => by rw [lastI, List.length_set, lastI_len]
theorem tmod_in {p x : Int} (hp : 1 ≤ p) (hx : 0 ≤ x) : 0 ≤ x.tmod p ∧ x.tmod p < p := by
  rw [Int.tmod_eq_emod_of_nonneg hx]
  exact ⟨Int.emod_nonneg _ (by omega), Int.emod_lt_of_pos _ (by omega)⟩
theorem inF.set {p : Int} {l : List Int} (h : inF p l) (i : Nat) {x : Int} (hx : 0 ≤ x ∧ x < p) : inF p (l.set i x) := fun y hy => by
  rcases List.mem_or_eq_of_mem_set hy with h1 | rfl
  · exact h y h1
  · exact hx
theorem lastI_in {p : Int} (hp : okP p) {x last : List Int} (hx : inF p x) (hl : inF p last) (hn : x.length = last.length) : ∀ {i : Nat}, i ≤ x.length → inF p (lastI p x last i)
  | 0, _ => hl
  | i + 1, hi => by
    have ih := lastI_in hp hx hl hn (i := i) (by omega)
    have := hp.le
    have h1 := ih.get (k := i) (by rw [lastI_len]; omega)
    have h2 := hx.get (k := i) (by omega)
    exact ih.set i (tmod_in (by omega) (by omega))
def part16 (rows : Nat) (l : List Int) (j : Nat) : List Int := (l.drop (j * rows)).take rows
def lastG (p : Int) (rows ix : Nat) (l : List Int) : Nat → List Int
  | 0 => (List.replicate rows 0).set ix 1
  | j + 1 => lastI p (part16 rows l j) (lastG p rows ix l j) rows
theorem lastG_len {p : Int} {rows ix : Nat} {l : List Int} : ∀ {j : Nat}, (lastG p rows ix l j).length = rows
  | 0 => by simp [lastG]
  | j + 1 => by rw [lastG, lastI_len, lastG_len]
theorem part16_in {p : Int} {rows : Nat} {l : List Int} (h : inF p l) (j : Nat) : inF p (part16 rows l j) := fun y hy => h y (List.mem_of_mem_drop (List.mem_of_mem_take hy))
theorem part16_len {rows sv : Nat} {l : List Int} (h : l.length = rows * (sv - 1)) {j : Nat} (hj : j < sv - 1) : (part16 rows l j).length = rows ∧ (j + 1) * rows ≤ l.length := by
  have h1 : (j + 1) * rows ≤ rows * (sv - 1) := by rw [Nat.mul_comm rows]; exact Nat.mul_le_mul_right rows (by omega)
  have h2 : (j + 1) * rows = j * rows + rows := by rw [Nat.add_mul, Nat.one_mul]
  refine ⟨?_, by omega⟩
  rw [part16, List.length_take, List.length_drop]
  omega
theorem lastG_in {p : Int} (hp : okP p) {rows ix sv : Nat} {l : List Int} (hl : inF p l) (h : l.length = rows * (sv - 1)) : ∀ {j : Nat}, j ≤ sv - 1 → inF p (lastG p rows ix l j)
  | 0, _ => by
    have := hp.le
    refine inF.set (fun y hy => ?_) ix ⟨by omega, by omega⟩
    obtain rfl := List.eq_of_mem_replicate hy
    omega
  | j + 1, hj => by
    have h1 := (part16_len h (j := j) (by omega)).1
    rw [lastG]
    refine lastI_in hp (part16_in hl j) (lastG_in hp hl h (j := j) (by omega)) (by rw [h1, lastG_len]) (by omega)
def outG (rows : Nat) (l : List Int) : Nat → List (List Int)
  | 0 => []
  | j + 1 => outG rows l j ++ [part16 rows l j]
theorem outG_len {rows : Nat} {l : List Int} : ∀ {j : Nat}, (outG rows l j).length = j
  | 0 => rfl
  | j + 1 => by rw [outG]; simp [outG_len]
theorem outG_ok {p : Int} {rows sv : Nat} {l : List Int} (hl : inF p l) (h : l.length = rows * (sv - 1)) : ∀ {j : Nat}, j ≤ sv - 1 → ∀ q ∈ outG rows l j, q.length = rows ∧ inF p q
  | 0, _, q, hq => by simp [outG] at hq
  | j + 1, hj, q, hq => by
    rw [outG] at hq
    rcases List.mem_append.1 hq with hq | hq
    · exact outG_ok hl h (by omega) q hq
    · obtain rfl := List.mem_singleton.1 hq
      exact ⟨(part16_len h (by omega)).1, part16_in hl j⟩
def q16 (p : Int) (rows sv ix : Nat) (l : List Int) : List (List Int) := outG rows l (sv - 1) ++ [lastG p rows ix l (sv - 1)]
theorem replicate_map {α β : Type} (f : α → β) (n : Nat) (x : α) : List.replicate n (f x) = (List.replicate n x).map f := by simp
theorem queries16 {p : Int} (hp : okP p) (rows sv ix : Nat) (h1 : 1 ≤ rows) (h2 : rows ≤ 4) (h3 : 3 ≤ sv) (h4 : sv ≤ 6) (hix : ix < rows) (t : List Int) (a : Nat) (ht : t.length ≤ 16384) (ha : a + rows * (sv - 1) ≤ t.length) (hin : inF p t) :
    Does Try.prog 59 [.ag [I p], I rows, I sv, I ix, vTape t a] [] (.tu [.d (dRows (q16 p rows sv ix ((t.drop a).take (rows * (sv - 1))))), vTape t ((a + rows * (sv - 1) : Nat) : Int), I 0]) [] [] := by
  refine go_ref16_Queries rfl BxOK.nil fun cx hm0 => go_in 5000 ?_
  unfold ac_ref16_Queries rs_ref16_Queries
  have hpl := hp.le
  have e1 := limits16 hp rows sv h1 h2 h3 h4
  have e2 := draws2 (p := p) (by omega) (by omega) t a (rows * (sv - 1)) ht ha hin
  have hm : rows * (sv - 1) ≤ 20 := Nat.mul_le_mul h2 (show sv - 1 ≤ 5 by omega)
  have w0 : IntKind.i64.wrap ((sv : Int) - 1) = ((sv - 1 : Nat) : Int) := by rw [show (sv : Int) - 1 = ((sv - 1 : Nat) : Int) by omega]; exact IntWalk.i64_in _ (by omega)
  have w1 : IntKind.i64.wrap ((rows : Int) * ((sv - 1 : Nat) : Int)) = ((rows * (sv - 1) : Nat) : Int) := by rw [← Int.natCast_mul]; exact IntWalk.i64_in _ (by omega)
  have q1 : decide ((ix : Int) < 0) = false := decide_eq_false (by omega)
  have q2 : decide ((ix : Int) ≥ (rows : Int)) = false := decide_eq_false (by omega)
  have hdl : ((t.drop a).take (rows * (sv - 1))).length = rows * (sv - 1) := by rw [List.length_take, List.length_drop]; omega
  have hdi : inF p ((t.drop a).take (rows * (sv - 1))) := fun y hy => hin y (List.mem_of_mem_drop (List.mem_of_mem_take hy))
  generalize (t.drop a).take (rows * (sv - 1)) = dr at *
  have hg : (List.replicate rows [D.at (.int .i64 0)]).getD ix [] = [D.at (.int .i64 0)] := by
    rw [List.getD_eq_getElem?_getD, List.getElem?_replicate, if_pos hix]; rfl
  have hq0 : (List.replicate rows [D.at (.int .i64 0)]).set ix [D.at (.int .i64 1)] = (lastG p rows ix dr 0).map eI := by rw [lastG, List.map_set, List.map_replicate]; rfl
  repeat' (first | simp (maxSteps := 9999999) only [↓GE, PL, PP, EE, QQ, seval, w0, w1, q1, q2, hix, hg, hq0, eI, List.drop_succ_cons, List.drop_zero, List.length_map, List.length_replicate] | (simp (disch := omega) only [IntWalk.i64_in]) | (refine go_brD (fun h => ?_) (fun h => ?_)) | (refine go_gsD (by ((try simp only [EE, QQ, seval]) <;> rfl)) (fun h => ?_) (fun h => ?_)) | (refine go_br (fun h => ?_) (fun h => ?_)) | (refine go_gs (by ((try simp only [EE, QQ, seval]) <;> rfl)) (fun h => ?_) (fun h => ?_)) | (apply go_call 5000 (e1) rfl rfl; iterate 4 (first | (exact CallForm.plain rfl) | ((try simp only [CC, LL, NM, EE, QQ, seval]) <;> (first | rfl | ((repeat constructor); done))))) | (apply go_call 5000 (e2) rfl rfl; iterate 4 (first | (exact CallForm.plain rfl) | ((try simp only [CC, LL, NM, EE, QQ, seval]) <;> (first | rfl | ((repeat constructor); done))))) | (with_reducible apply And.intro) | (with_reducible exact trivial) | omega | (simp only [List.length_map, List.length_cons, List.length_nil] at *; omega) | (show _ = true; first | rfl | kernel_rfl))
  refine go_loopz 5000 hm0 (ι := {q : Nat × Nat // q.1 ≤ sv - 1}) (fun i => [(1, I rows), (2, I sv), (5, .bp 5 0 0), (9, .bp 9 0 0), (11, .bp 11 0 0), (15, .d (dInts dr)), (17, .og 59 0), (18, .og 105 i.1.2), (19, I i.1.1)]) (fun i => [(5, .box 0 [I p]), (9, .box 0 [.d (dInts t), I ((a + rows * (sv - 1) : Nat) : Int)]), (11, .box 0 [.nl 1, I 0]), (59, .arr 0 1 true ((lastG p rows ix dr i.1.1).map eI)), (105, .arr i.1.2 1 true ((outG rows dr i.1.1).map eR))]) (fun i => sv - 1 - i.1.1) [] [105] ⟨(0, 0), Nat.zero_le _⟩ ?_ ?_
  · simp only [GeZ]; (simp only [GeS]; refine ⟨?_, ?_, ?_, ?_⟩; all_goals (repeat' (first | (with_reducible exact True.intro) | (with_reducible rfl) | simp only [CC, LL, EE, QQ, seval, List.contains_nil, Bool.false_eq_true, ↓reduceIte, Option.some.injEq, O.arr.injEq, true_and, and_true] | (with_reducible apply And.intro) | (refine ⟨_, rfl, ?_⟩) | (simp [outG, hq0, hg, eI]; done) | rfl | omega | trivial)))
  rintro ⟨⟨j, v⟩, hj⟩
  simp only at hj
  have hol := outG_len (rows := rows) (l := dr) (j := j)
  by_cases hjn : j < sv - 1
  · have q3 : decide ((j : Int) < ((sv - 1 : Nat) : Int)) = true := decide_eq_true (by omega)
    have hpl2 := part16_len hdl hjn
    have hjr : (j + 1) * rows = j * rows + rows := by rw [Nat.add_mul, Nat.one_mul]
    have w2 : IntKind.i64.wrap ((j : Int) * (rows : Int)) = ((j * rows : Nat) : Int) := by rw [← Int.natCast_mul]; exact IntWalk.i64_in _ (by omega)
    have w3 : IntKind.i64.wrap ((j : Int) + 1) = ((j + 1 : Nat) : Int) := by rw [show (j : Int) + 1 = ((j + 1 : Nat) : Int) by omega]; exact IntWalk.i64_in _ (by omega)
    have w4 : IntKind.i64.wrap (((j + 1 : Nat) : Int) * (rows : Int)) = (((j + 1) * rows : Nat) : Int) := by rw [← Int.natCast_mul]; exact IntWalk.i64_in _ (by omega)
    have hpt : (((dr.map eI).take ((j + 1) * rows)).drop (j * rows)) = (part16 rows dr j).map eI := by
      rw [part16, ← List.map_take, ← List.map_drop, List.drop_take, hjr, Nat.add_sub_cancel_left]
    have hL : lastG p rows ix dr (j + 1) = lastI p (part16 rows dr j) (lastG p rows ix dr j) rows := rfl
    have hO : outG rows dr (j + 1) = outG rows dr j ++ [part16 rows dr j] := rfl
    have hLl := lastG_len (p := p) (rows := rows) (ix := ix) (l := dr) (j := j)
    have hLi := lastG_in (ix := ix) hp hdi hdl (j := j) (by omega)
    have hPi := part16_in (rows := rows) hdi j
    generalize part16 rows dr j = x at *
    have hxl := hpl2.1
    have hxr := hpl2.2
    repeat' (first | simp (maxSteps := 9999999) only [↓GE, PL, PP, EE, QQ, seval, q3, w2, w3, w4, hpt, hxl, List.length_map] | (simp (disch := omega) only [IntWalk.i64_in]) | (refine go_brD (fun h => ?_) (fun h => ?_)) | (refine go_gsD (by ((try simp only [EE, QQ, seval]) <;> rfl)) (fun h => ?_) (fun h => ?_)) | (refine go_br (fun h => ?_) (fun h => ?_)) | (refine go_gs (by ((try simp only [EE, QQ, seval]) <;> rfl)) (fun h => ?_) (fun h => ?_)) | (with_reducible apply And.intro) | (with_reducible exact trivial) | omega | (simp only [List.length_map, List.length_cons, List.length_nil] at *; omega) | (show _ = true; first | rfl | kernel_rfl))
    refine go_loop 5000 hm0 (ι := {i : Nat // i ≤ rows}) (fun i => [(1, I rows), (2, I sv), (5, .bp 5 0 0), (9, .bp 9 0 0), (11, .bp 11 0 0), (15, .d (dInts dr)), (17, .og 59 0), (18, .og 105 v), (19, I j), (20, .og 78 0), (79, .og 78 0), (80, I rows), (81, I i.1)]) (fun i => [(5, .box 0 [I p]), (9, .box 0 [.d (dInts t), I ((a + rows * (sv - 1) : Nat) : Int)]), (11, .box 0 [.nl 1, I 0]), (59, .arr 0 1 true ((lastI p x (lastG p rows ix dr j) i.1).map eI)), (78, .arr 0 1 true (x.map eI)), (105, .arr v 1 true ((outG rows dr j).map eR))]) (fun i => rows - i.1) [] ⟨0, Nat.zero_le _⟩ ?_ ?_
    · (simp only [GeS]; refine ⟨?_, ?_, ?_, ?_⟩; all_goals (repeat' (first | (with_reducible exact True.intro) | (with_reducible rfl) | simp only [CC, LL, EE, QQ, seval, List.contains_nil, Bool.false_eq_true, ↓reduceIte, Option.some.injEq, O.arr.injEq, true_and, and_true] | (with_reducible apply And.intro) | (refine ⟨_, rfl, ?_⟩) | (simp [lastI, hxl]; done) | rfl | omega | trivial)))
    rintro ⟨i, hi⟩
    have hil := lastI_len (p := p) (x := x) (last := lastG p rows ix dr j) (i := i)
    by_cases hir : i < rows
    · have hI : lastI p x (lastG p rows ix dr j) (i + 1) = (lastI p x (lastG p rows ix dr j) i).set i (((lastI p x (lastG p rows ix dr j) i).getD i 0 + p - x.getD i 0).tmod p) := rfl
      have hin1 := (lastI_in hp hPi hLi (by omega) (i := i) (by omega)).get (k := i) (by omega)
      have hs1 := getD_map eI [] 0 (lastI p x (lastG p rows ix dr j) i) i (by omega)
      have hs2 := getD_map eI [] 0 x i (by omega)
      have hin2 := hPi.get (k := i) (by omega)
      have hlm : i < (lastI p x (lastG p rows ix dr j) i).length := by omega
      generalize lastI p x (lastG p rows ix dr j) i = cur at *
      generalize cur.getD i 0 = y at *
      generalize x.getD i 0 = z at *
      have hm1 := tmod_in (p := p) (x := y + p - z) (by omega) (by omega)
      have w5 : IntKind.i64.wrap (y + p) = y + p := IntWalk.i64_in _ (by omega)
      have w6 : IntKind.i64.wrap (y + p - z) = y + p - z := IntWalk.i64_in _ (by omega)
      have w7 : IntKind.i64.wrap ((y + p - z).tmod p) = (y + p - z).tmod p := IntWalk.i64_in _ (by omega)
      have hp0 : p ≠ 0 := by omega
      have q4 : decide ((i : Int) < (rows : Int)) = true := decide_eq_true (by omega)
      have hset : (cur.map eI).set i [D.at (.int .i64 ((y + p - z).tmod p))] = (lastI p x (lastG p rows ix dr j) (i + 1)).map eI := by rw [hI, List.map_set]; rfl
      repeat' (first | simp (maxSteps := 9999999) only [↓GE, PL, PP, EE, QQ, seval, q4, hs1, hs2, w5, w6, w7, hp0, hxl, hlm, hir, eI, List.length_map, List.drop_succ_cons, List.drop_zero] | (simp (disch := omega) only [IntWalk.i64_in]) | (refine go_brD (fun h => ?_) (fun h => ?_)) | (refine go_gsD (by ((try simp only [EE, QQ, seval]) <;> rfl)) (fun h => ?_) (fun h => ?_)) | (refine go_br (fun h => ?_) (fun h => ?_)) | (refine go_gs (by ((try simp only [EE, QQ, seval]) <;> rfl)) (fun h => ?_) (fun h => ?_)) | (with_reducible apply And.intro) | (with_reducible exact trivial) | omega | (simp only [List.length_map, List.length_cons, List.length_nil] at *; omega) | (show _ = true; first | rfl | kernel_rfl))
      refine ⟨⟨i + 1, hir⟩, ?_, by simp only; omega⟩
      (simp only [GeS]; refine ⟨?_, ?_, ?_, ?_⟩; all_goals (repeat' (first | (with_reducible exact True.intro) | (with_reducible rfl) | simp only [CC, LL, EE, QQ, seval, List.contains_nil, Bool.false_eq_true, ↓reduceIte, Option.some.injEq, O.arr.injEq, true_and, and_true] | (with_reducible apply And.intro) | (refine ⟨_, rfl, ?_⟩) | (simp [hset, eI]; done) | rfl | omega | trivial)))
    · obtain rfl : i = rows := by omega
      have q4 : decide ((i : Int) < (i : Int)) = false := decide_eq_false (by omega)
      repeat' (first | simp (maxSteps := 9999999) only [↓GE, PL, PP, EE, QQ, seval, q4, hol, List.length_map] | (simp (disch := omega) only [IntWalk.i64_in]) | (refine go_brD (fun h => ?_) (fun h => ?_)) | (refine go_gsD (by ((try simp only [EE, QQ, seval]) <;> rfl)) (fun h => ?_) (fun h => ?_)) | (refine go_br (fun h => ?_) (fun h => ?_)) | (refine go_gs (by ((try simp only [EE, QQ, seval]) <;> rfl)) (fun h => ?_) (fun h => ?_)) | (with_reducible apply And.intro) | (with_reducible exact trivial) | omega | (simp only [List.length_map, List.length_cons, List.length_nil] at *; omega) | (show _ = true; first | rfl | kernel_rfl))
      refine ⟨[], [], ⟨(j + 1, v + 1), hjn⟩, ?_, by simp only; omega⟩
      simp only [GeZ]; (simp only [GeS]; refine ⟨?_, ?_, ?_, ?_⟩; all_goals (repeat' (first | (with_reducible exact True.intro) | (with_reducible rfl) | simp only [CC, LL, EE, QQ, seval, List.contains_nil, Bool.false_eq_true, ↓reduceIte, Option.some.injEq, O.arr.injEq, true_and, and_true] | (with_reducible apply And.intro) | (refine ⟨_, rfl, ?_⟩) | (simp [hL, hO, eR]; done) | rfl | omega | trivial)))
  · obtain rfl : j = sv - 1 := by omega
    have q3 : decide (((sv - 1 : Nat) : Int) < ((sv - 1 : Nat) : Int)) = false := decide_eq_false (by omega)
    repeat' (first | simp (maxSteps := 9999999) only [↓GE, PL, PP, EE, QQ, seval, q3, w0, List.length_map] | (simp (disch := omega) only [IntWalk.i64_in]) | (refine go_brD (fun h => ?_) (fun h => ?_)) | (refine go_gsD (by ((try simp only [EE, QQ, seval]) <;> rfl)) (fun h => ?_) (fun h => ?_)) | (refine go_br (fun h => ?_) (fun h => ?_)) | (refine go_gs (by ((try simp only [EE, QQ, seval]) <;> rfl)) (fun h => ?_) (fun h => ?_)) | (with_reducible apply And.intro) | (with_reducible exact trivial) | omega | (simp only [List.length_map, List.length_cons, List.length_nil] at *; omega) | (show _ = true; first | rfl | kernel_rfl))
    all_goals ((first | apply ret_mk [] | apply end_mk []); (· ((try simp only [CC, LL, EE, QQ, seval]) <;> rfl)); (· ((try simp only [CC, LL, EE, QQ, seval]) <;> repeat' (first | (with_reducible apply And.intro) | rfl | trivial | (exact ⟨_, rfl⟩) | (exact ⟨_, _, _, rfl⟩) | (simp [*, q16, eR]; done) | (simp [*, q16, eR]; omega) | (simp_all [q16, eR]; done) | (simp_all [q16, eR]; omega)))); all_goals (first | trivial | decide | ((try simp only [CC, LL, EE, QQ, seval]) <;> repeat' (first | (with_reducible apply And.intro) | (exact ⟨_, rfl, rfl, rfl⟩) | (exact ⟨_, _, _, rfl⟩) | (exact ⟨_, rfl⟩) | trivial | rfl | (simp; done)))))
end Go.Proofs.Ytihjmnhjjpdenaa.Sim
end
section
namespace Go.Proofs.Ytihjmnhjjpdenaa.Sim
open Go Go.RowKit Go.Deep
set_option linter.unusedVariables false
section
variable {m : M} {hd : H} {w : World} {S X : Nat → Prop} {B : Nat}
theorem rows1 : ∀ {ds : List D} {us : List Value}, Cells w S ds us → Rows w S 1 (ds.map fun d => [d]) us
  | [], us, h => by simp only [Cells] at h; subst h; simp [Rows]
  | d :: ds, us, h => by
    simp only [Cells] at h
    obtain ⟨x, r, rfl, h1, h2⟩ := h
    simp only [List.map_cons, Rows]
    exact ⟨[x], r, rfl, rfl, by simp only [Cells]; exact ⟨x, [], rfl, h1, rfl⟩, rows1 h2⟩
theorem out_seal (h : Mem m hd w S X B) {i v b : Nat} {cs : List V} {ds : List D} {vs : List Value} (hi : m i = some (.box v cs)) (hb : hd i = .pointer (some ⟨b, 0, none⟩)) (hc : Cells w S ds vs) (hr : w.rangeAt b 0 vs) (hn : ds.length ≤ maxLen) :
    ∃ S', Out X B m hd w S (up m i (some (.arr (v + 1) 1 false (ds.map fun d => [d])))) (up hd i (.slice (some ⟨b, 0, none⟩) ds.length ds.length)) w S' ∧ (D.sl 1 (ds.map fun d => [d])).is w S' (.slice (some ⟨b, 0, none⟩) ds.length ds.length) := by
  have hblk := h.blk hi rfl (b := b) (by rw [hb]; rfl)
  let S' : Nat → Prop := fun x => S x ∨ x = b
  have hD : (D.sl 1 (ds.map fun d => [d])).is w S' (.slice (some ⟨b, 0, none⟩) ds.length ds.length) := by
    simp only [D.is]
    exact ⟨_, _, vs, by rw [List.length_map], by rw [List.length_map]; exact Nat.le_refl _, hn, Rows.keep (fun x hx _ => ⟨.inl hx, rfl⟩) _ _ _ (rows1 hc), fun _ => ⟨b, 0, rfl, ⟨.inr rfl, hblk.1⟩, hr⟩⟩
  have hle : Le m hd (up m i (some (.arr (v + 1) 1 false (ds.map fun d => [d])))) (up hd i (.slice (some ⟨b, 0, none⟩) ds.length ds.length)) := ⟨fun j oj hj => by
    by_cases e : j = i
    · subst e
      rw [hi] at hj
      cases hj
      exact ⟨_, up_same _ _ _, by simp [O.ver], fun e => by simp [O.ver] at e⟩
    · exact ⟨oj, by rw [up_ne _ _ e]; exact hj, Nat.le_refl _, fun _ => ⟨by rw [up_ne _ _ e], rfl⟩⟩⟩
  refine ⟨S', ⟨?_, hle, fun b hb _ => ⟨.inl hb, rfl⟩, Fr.refl _ _, fun x hx => hx.elim .inl fun e => by subst e; exact .inr hblk.2.2.symm⟩, hD⟩
  refine Mem.next (Z := fun _ => False) h (Nat.le_refl _) (fun _ _ _ => rfl) (fun _ _ h => h) (fun b hb => .inl hb) (fun x hx => hx.elim (h.lt x) fun e => by subst e; exact hblk.1) hle (fun j oj hj => ?_) (fun j k' oj ok x hjk hj hk lj lk bj bk => ?_)
  · by_cases e : j = i
    · subst e
      rw [up_same] at hj
      cases hj
      refine .inr ?_
      simp only [O.is, Bool.false_eq_true, if_false, up_same]
      exact hD
    · rw [up_ne _ _ e] at hj
      refine .inl ⟨hj, up_ne _ _ e, fun x hl hx => ⟨fun h => h, ?_⟩⟩
      rintro (h1 | h1)
      · exact (h.blk hj hl hx).2.1 h1
      · subst h1
        exact h.sep j i oj _ x e hj hi hl rfl hx (by rw [hb]; rfl)
  · by_cases e : j = i
    · subst e; rw [up_same] at hj; cases hj; cases lj
    · by_cases e' : k' = i
      · subst e'; rw [up_same] at hk; cases hk; cases lk
      · rw [up_ne _ _ e] at hj bj
        rw [up_ne _ _ e'] at hk bk
        exact h.sep j k' oj ok x hjk hj hk lj lk bj bk
end
section
variable {P : Program} {cx : Cx} {Q : Exit → St → Prop} {s : St} {a : Act} {w : World}
/-- What slot t leads to, a variable of slices, is data from now on. -/
def SealS (s s2 : St) : Prop := ∃ t i v n q cs ds, s.T t = .ep i v n q ∧ s.m i = some (.box v cs) ∧ n = cs.length ∧ cs.length ≤ maxLen ∧ dcells s.m cs = some ds ∧ ups s.m (frz s.m cs) i = some (.box v cs) ∧ s2 = ⟨up s.T t (.d (.sl 1 (ds.map fun d => [d]))), up (ups s.m (frz s.m cs)) i (some (.arr (v + 1) 1 false (ds.map fun d => [d])))⟩
theorem Rel.seal {s2 : St} (h : Rel cx s a w) (hs : SealS s s2) : Rel cx s2 a w := by
  obtain ⟨t, i, v, n, q, cs, ds, hT, hi, hn, hmx, hd, hi2, rfl⟩ := hs
  obtain ⟨hd1, S, hm, hv, hfr, hdef, hsz, hsub, hle⟩ := h
  have hob := hm.obj i _ hi
  simp only [O.is] at hob
  obtain ⟨b, vs, e, _, _, _, hvs, _, _, hr⟩ := hob
  obtain ⟨S1, o1⟩ := out_frzs hm cs
  have hc := dcells_ok (fun b hb => ((o1.keep b hb (hm.lt b hb)).1)) o1.mem hvs hd (fun i v k mu l' hmem hi => ups_frz_get hi _ _ hmem)
  have hcl : ds.length = cs.length := by rw [← hc.len, hvs.len]
  obtain ⟨S2, o2, hD⟩ := out_seal o1.mem hi2 e hc hr (by omega)
  refine ⟨_, S2, o2.mem, fun t' => ?_, hfr, hdef, hsz, fun b hb => ?_, hle.trans (o1.le.trans o2.le)⟩
  · simp only
    by_cases e' : t' = t
    · subst e'
      rw [up_same]
      have := hv t'
      rw [hT] at this
      simp only [VR] at this ⊢
      obtain ⟨_, y, hy, _, _, h3⟩ := this
      rw [hi] at hy
      cases hy
      obtain ⟨b', g1, g2⟩ := h3 cs rfl
      rw [e] at g1
      cases g1
      rw [g2, hn, ← hcl]
      exact hD
    · rw [up_ne _ _ e']
      exact o2.vr (o1.vr (hv t'))
  · rcases o2.more b hb with h1 | h1
    · exact (o1.more b h1).elim (hsub b) .inr
    · exact .inr h1
theorem Awp.seal {c : AC} (h : Awp P cx c (fun e s => ∃ s2, SealS s s2 ∧ Q e s2) s) : Awp P cx c Q s := by
  intro code hc a w hR b k cs
  obtain ⟨e, a', w', ⟨s', ⟨s2, h1, h2⟩, hR'⟩, harr⟩ := h code hc a w hR b k cs
  exact ⟨e, a', w', ⟨s2, h2, hR'.seal h1⟩, harr⟩
theorem seal_mk (t i : Nat) {v n q : Nat} {cs : List V} {ds : List D} {e : Exit} (h1 : s.T t = .ep i v n q) (h2 : s.m i = some (.box v cs)) (h3 : n = cs.length) (h4 : cs.length ≤ maxLen) (h5 : dcells s.m cs = some ds) (h6 : ups s.m (frz s.m cs) i = some (.box v cs))
    (h : Q e ⟨up s.T t (.d (.sl 1 (ds.map fun d => [d]))), up (ups s.m (frz s.m cs)) i (some (.arr (v + 1) 1 false (ds.map fun d => [d])))⟩) : ∃ s2, SealS s s2 ∧ Q e s2 :=
  ⟨_, ⟨t, i, v, n, q, cs, ds, h1, h2, h3, h4, h5, h6, rfl⟩, h⟩
/-- .. or not. -/
theorem Awp.mayseal {c : AC} (h : Awp P cx c (fun e s => Q e s ∨ ∃ s2, SealS s s2 ∧ Q e s2) s) : Awp P cx c Q s := by
  intro code hc a w hR b k cs
  obtain ⟨e, a', w', ⟨s', h1 | ⟨s2, h1, h2⟩, hR'⟩, harr⟩ := h code hc a w hR b k cs
  · exact ⟨e, a', w', ⟨s', h1, hR'⟩, harr⟩
  · exact ⟨e, a', w', ⟨s2, h2, hR'.seal h1⟩, harr⟩
end
end Go.Proofs.Ytihjmnhjjpdenaa.Sim
end
section
namespace Go.Proofs.Ytihjmnhjjpdenaa.Sim
open Go
set_option maxRecDepth 100000
set_option maxHeartbeats 4000000
set_option linter.unusedVariables false
set_option linter.unusedSimpArgs false
attribute [local irreducible] Go Mean
/-- The coefficients of the query of a row. -/
def coef17 (ix deg : Nat) (t : List Int) (i : Nat) : List Int := (if i = ix then 1 else 0) :: (t.drop (i * deg)).take deg
/-- What server k + 1 gets for the first rows. -/
def colG (p : Int) (cf : Nat → List Int) (k : Nat) : Nat → List Int
  | 0 => []
  | i + 1 => colG p cf k i ++ [polyV p ((k + 1 : Nat) : Int) (cf i)]
theorem colG_len {p : Int} {cf : Nat → List Int} {k : Nat} : ∀ {i : Nat}, (colG p cf k i).length = i
  | 0 => rfl
  | i + 1 => by rw [colG]; simp [colG_len]
theorem colG_in {p : Int} (hp : okP p) {cf : Nat → List Int} {k n : Nat} (hk : k < 6) (h : ∀ i < n, inF p (cf i)) : ∀ {i : Nat}, i ≤ n → inF p (colG p cf k i)
  | 0, _ => by intro x hx; simp [colG] at hx
  | i + 1, hi => by
    intro x hx
    rw [colG] at hx
    have := hp.le
    rcases List.mem_append.1 hx with h1 | h1
    · exact colG_in hp hk h (i := i) (by omega) x h1
    · obtain rfl := List.mem_singleton.1 h1
      exact polyV_in hp ⟨by omega, by omega⟩ (h i (by omega))
theorem coef17_in {p : Int} (hp : okP p) {ix deg : Nat} {t : List Int} (ht : inF p t) (i : Nat) : inF p (coef17 ix deg t i) := fun y hy => by
  have := hp.le
  rcases List.mem_cons.1 hy with rfl | hy
  · split <;> omega
  · exact ht y (List.mem_of_mem_drop (List.mem_of_mem_take hy))
theorem share_at {p : Int} {f : List Int} : ∀ {n k : Nat}, k < n → (sharesG p f n).getD k (0, 0) = (((k + 1 : Nat) : Int), polyV p ((k + 1 : Nat) : Int) f)
  | 0, k, h => by omega
  | n + 1, k, h => by
    rw [sharesG, List.getD_eq_getElem?_getD]
    by_cases hk : k < n
    · rw [List.getElem?_append_left (by rw [sharesG_len]; exact hk), ← List.getD_eq_getElem?_getD, share_at hk]
    · obtain rfl : k = n := by omega
      rw [List.getElem?_append_right (by rw [sharesG_len]; exact Nat.le_refl _), sharesG_len, Nat.sub_self]
      rfl
end Go.Proofs.Ytihjmnhjjpdenaa.Sim
end
