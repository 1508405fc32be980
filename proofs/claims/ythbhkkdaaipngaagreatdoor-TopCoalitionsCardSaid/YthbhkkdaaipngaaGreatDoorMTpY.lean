/- Rows are decoded; which row is asked for. -/
import Derived.Test.YthbhkkdaaipngaaGreatDoorMTpT
import Derived.Test.YthbhkkdaaipngaaGreatDoorMTpU
section
namespace Go.Proofs.YthbhkkdaaipngaaGreatDoor.Sim
open Go Go.RowKit Go.Deep
open Go.Proofs.YthbhkkdaaipngaaGreatDoor.Tw (WCell kn kn_len kn_all kn_next)
set_option maxRecDepth 100000
set_option maxHeartbeats 4000000
set_option linter.unusedVariables false
set_option linter.unusedSimpArgs false
attribute [local irreducible] Go Mean
/-- An answer of a server. -/
structure PAns where
  k : Bool
  row : List Int
def eA (a : PAns) : List D := [.at (.bool a.k), dInts a.row]
abbrev dAns (l : List PAns) : D := .sl 2 (l.map eA)
/-- How many are known. -/
def cntA : List PAns → Nat
  | [] => 0
  | a :: r => (if a.k then 1 else 0) + cntA r
theorem cntA_append : ∀ {a b : List PAns}, cntA (a ++ b) = cntA a + cntA b
  | [], b => by simp [cntA]
  | x :: a, b => by simp only [List.cons_append, cntA]; rw [cntA_append]; omega
theorem cntA_le : ∀ {l : List PAns}, cntA l ≤ l.length
  | [] => Nat.le_refl _
  | a :: r => by have := cntA_le (l := r); simp only [cntA, List.length_cons]; split <;> omega
theorem cntA_next {l : List PAns} {k : Nat} (h : k < l.length) : cntA (l.take (k + 1)) = cntA (l.take k) + if l[k].k then 1 else 0 := by
  rw [List.take_succ_eq_append_getElem h, cntA_append]; simp [cntA]
/-- Answers that fit. -/
def AnsOK (p : Int) (w : Nat) (l : List PAns) : Prop := ∀ a ∈ l, a.k = true → a.row.length = w ∧ a.row.all (inE p) = true
theorem checkA (p : Int) (w need : Nat) (l : List PAns) (hw : w ≤ 64) (hl : l.length ≤ 32) (ha : AnsOK p w l) (hn : need ≤ cntA l) :
    Does Tryz.prog 32 [.ag [I p], I w, I l.length, I need, .d (dAns l)] [] (I 0) [] [] := by
  refine go_columns_Check rfl BxOK.nil fun cx hm0 => go_in 5000 ?_
  unfold ac_columns_Check rs_columns_Check
  have q1 : decide ((w : Int) < 0) = false := decide_eq_false (by omega)
  have q2 : decide ((64 : Int) < (w : Int)) = false := decide_eq_false (by omega)
  have q3 : ((l.length : Int) != (l.length : Int)) = false := by simp
  have q4 : decide ((cntA l : Int) < (need : Int)) = false := decide_eq_false (by omega)
  repeat' (first | simp (maxSteps := 9999999) only [↓GE, PL, PP, EE, QQ, seval, q1, q2, q3, List.length_map] | (simp (disch := omega) only [IntWalk.i64_in]) | (refine go_brD (fun h => ?_) (fun h => ?_)) | (refine go_gsD aE (fun h => ?_) (fun h => ?_)) | (refine go_br (fun h => ?_) (fun h => ?_)) | (refine go_gs aE (fun h => ?_) (fun h => ?_)) | (with_reducible apply And.intro) | exact aG | fail)
  refine go_loopz 5000 hm0 (ι := {k : Nat // k ≤ l.length}) (fun k => [(1, I w), (3, I need), (5, .bp 5 0 0), (10, I 0), (11, I (cntA (l.take k.1))), (12, B true), (25, .d (dAns l)), (26, I l.length), (27, I k.1)]) (fun k => [(5, .box 0 [I p])]) (fun k => l.length - k.1) [] [] ⟨0, Nat.zero_le _⟩ ?_ ?_
  · simp only [GeZ]; (simp only [GeS]; refine ⟨?_, ?_, ?_, ?_⟩; all_goals (repeat' (first | (with_reducible exact True.intro) | (with_reducible rfl) | simp only [XC, ↓reduceIte, seval] | (with_reducible apply And.intro) | (refine ⟨_, rfl, ?_⟩) | (simp [cntA]; done) | exact aS | fail)))
  · rintro ⟨k, hk⟩
    simp only
    by_cases hkl : k < l.length
    · have r1 : decide ((k : Int) < (l.length : Int)) = true := decide_eq_true (by omega)
      have u1 : IntKind.i64.wrap ((k : Int) + 1) = ((k + 1 : Nat) : Int) := by rw [IntWalk.i64_in _ (by omega)]; omega
      have hcl := cntA_le (l := l.take k)
      rw [List.length_take] at hcl
      have hnx := cntA_next hkl
      have hs := getD_map eA [] ⟨false, []⟩ l k hkl
      have hg : l.getD k ⟨false, []⟩ = l[k] := by simp [List.getD_eq_getElem?_getD, hkl]
      rw [hg] at hs
      have hin := ha l[k] (List.getElem_mem hkl)
      generalize l[k] = a at hs hnx hin
      obtain ⟨ck, row⟩ := a
      have u2 : IntKind.i64.wrap ((cntA (l.take k) : Int) + 1) = ((cntA (l.take k) + 1 : Nat) : Int) := by rw [IntWalk.i64_in _ (by omega)]; omega
      generalize cntA (l.take k) = c at *
      simp only at hnx hin
      cases ck with
      | false =>
        repeat' (first | simp (maxSteps := 9999999) only [↓GE, PL, PP, EE, QQ, seval, r1, u1, hs, hkl, eA, List.length_map] | (simp (disch := omega) only [IntWalk.i64_in]) | (refine go_brD (fun h => ?_) (fun h => ?_)) | (refine go_gsD aE (fun h => ?_) (fun h => ?_)) | (refine go_br (fun h => ?_) (fun h => ?_)) | (refine go_gs aE (fun h => ?_) (fun h => ?_)) | (with_reducible apply And.intro) | exact aG | fail)
        simp only [Bool.false_eq_true, if_false, Nat.add_zero] at hnx
        refine ⟨[], [], ⟨k + 1, hkl⟩, ?_, by simp only; omega⟩
        simp only [GeZ]; (simp only [GeS]; refine ⟨?_, ?_, ?_, ?_⟩; all_goals (repeat' (first | (with_reducible exact True.intro) | (with_reducible rfl) | simp only [XC, ↓reduceIte, seval] | (with_reducible apply And.intro) | (refine ⟨_, rfl, ?_⟩) | (simp [hnx]; done) | exact aS | fail)))
      | true =>
        obtain ⟨h1, h2⟩ := hin rfl
        have q5 : ((row.length : Int) != (w : Int)) = false := by rw [h1]; simp
        have e1 := allF p row (by omega)
        rw [h2] at e1
        repeat' (first | simp (maxSteps := 9999999) only [↓GE, PL, PP, EE, QQ, seval, r1, u1, u2, hs, hkl, q5, eA, List.length_map] | (simp (disch := omega) only [IntWalk.i64_in]) | (refine go_brD (fun h => ?_) (fun h => ?_)) | (refine go_gsD aE (fun h => ?_) (fun h => ?_)) | (refine go_br (fun h => ?_) (fun h => ?_)) | (refine go_gs aE (fun h => ?_) (fun h => ?_)) | (apply go_call 5000 (e1) rfl rfl; iterate 4 (first | (exact CallForm.plain rfl) | exact aC)) | (with_reducible apply And.intro) | exact aG | fail)
        simp only [if_true] at hnx
        refine ⟨[], [], ⟨k + 1, hkl⟩, ?_, by simp only; omega⟩
        simp only [GeZ]; (simp only [GeS]; refine ⟨?_, ?_, ?_, ?_⟩; all_goals (repeat' (first | (with_reducible exact True.intro) | (with_reducible rfl) | simp only [XC, ↓reduceIte, seval] | (with_reducible apply And.intro) | (refine ⟨_, rfl, ?_⟩) | (simp [hnx]; done) | exact aS | fail)))
    · obtain rfl : k = l.length := by omega
      have r1 : decide ((l.length : Int) < (l.length : Int)) = false := decide_eq_false (by omega)
      rw [List.take_length]
      repeat' (first | simp (maxSteps := 9999999) only [↓GE, PL, PP, EE, QQ, seval, r1, q4] | (simp (disch := omega) only [IntWalk.i64_in]) | (refine go_brD (fun h => ?_) (fun h => ?_)) | (refine go_gsD aE (fun h => ?_) (fun h => ?_)) | (refine go_br (fun h => ?_) (fun h => ?_)) | (refine go_gs aE (fun h => ?_) (fun h => ?_)) | (with_reducible apply And.intro) | exact aG | fail)
      all_goals ((first | apply ret_mk [] | apply end_mk []); (· exact aR); (· exact aZ); all_goals exact aF)
/-- The cells of a column. -/
def colC (i : Nat) (l : List PAns) : List WCell := l.map fun a => ⟨if a.k then a.row.getD i 0 else 0, a.k⟩
theorem colC_next {i : Nat} {l : List PAns} {k : Nat} (h : k < l.length) : colC i (l.take (k + 1)) = colC i (l.take k) ++ [⟨if l[k].k then l[k].row.getD i 0 else 0, l[k].k⟩] := by
  unfold colC
  rw [List.take_succ_eq_append_getElem h, List.map_append]; rfl
theorem colC_len {i : Nat} {l : List PAns} : (colC i l).length = l.length := by simp [colC]
theorem colC_in {p : Int} {w i : Nat} {l : List PAns} (hp : 2 ≤ p) (ha : AnsOK p w l) (hi : i < w) (hl : l.length ≤ 32) (hlp : (l.length : Int) < p) : WordIn p (colC i l) := by
  refine ⟨?_, by rw [colC_len]; exact hl, by rw [colC_len]; exact hlp⟩
  intro y hy
  simp only [colC, List.mem_map] at hy
  obtain ⟨a, h1, rfl⟩ := hy
  simp only
  split
  · rename_i hk
    obtain ⟨h2, h3⟩ := ha a h1 hk
    exact all_getD h3 (by omega)
  · omega
theorem kn_colC : ∀ {i j : Nat} {l : List PAns}, (kn j (colC i l)).length = cntA l
  | i, j, [] => by simp [colC, kn, cntA]
  | i, j, a :: r => by
    have ih := kn_colC (i := i) (j := j + 1) (l := r)
    unfold colC at ih ⊢
    rw [List.map_cons, kn, cntA, ← ih]
    simp only
    split
    · rw [List.length_cons]; omega
    · omega
theorem columnT (p : Int) (w need i : Nat) (l : List PAns) (hf : fieldB p = true) (hw : w ≤ 64) (hi : i < w) (hl : l.length ≤ 32) (hlp : (l.length : Int) < p) (ha : AnsOK p w l) (h1 : 1 ≤ need) (hn : need ≤ cntA l) (ho : DecOK p (colC i l) need) :
    Does Tryz.prog 28 [.ag [I p, I need, .d (dAns l)], I i] [] (.tu [.ag [.d (dInts (decP p (colC i l) need)), .d (dInts (wrN p (decP p (colC i l) need) 0 (colC i l)))], I 0]) [] [] := by
  refine go_columns_Columns_Decode rfl BxOK.nil fun cx hm0 => go_in 5000 ?_
  unfold ac_columns_Columns_Decode rs_columns_Columns_Decode
  have hp := (fieldB_iff.1 hf).1
  have e1 := decodeU p (colC i l) need hf (colC_in hp ha hi hl hlp) h1 (by rw [kn_colC]; exact hn) ho
  repeat' (first | simp (maxSteps := 9999999) only [↓GE, PL, PP, EE, QQ, seval, List.length_map] | (simp (disch := omega) only [IntWalk.i64_in]) | (refine go_brD (fun h => ?_) (fun h => ?_)) | (refine go_gsD aE (fun h => ?_) (fun h => ?_)) | (refine go_br (fun h => ?_) (fun h => ?_)) | (refine go_gs aE (fun h => ?_) (fun h => ?_)) | (with_reducible apply And.intro) | exact aG | fail)
  refine go_loopz 5000 hm0 (ι := {q : Nat × Nat // q.1 ≤ l.length}) (fun q => [(1, I i), (2, .bp 2 0 0), (4, .bp 4 0 0), (5, I 0), (6, .og 31 q.1.2), (11, .d (dAns l)), (12, I l.length), (13, I q.1.1)]) (fun q => [(2, .box 0 [I p, I need, .d (dAns l)]), (4, .box 0 [.nl 1, .nl 1]), (31, .arr q.1.2 2 true ((colC i (l.take q.1.1)).map eC))]) (fun q => l.length - q.1.1) [] [31] ⟨(0, 0), Nat.zero_le _⟩ ?_ ?_
  · simp only [GeZ]; (simp only [GeS]; refine ⟨?_, ?_, ?_, ?_⟩; all_goals (repeat' (first | (with_reducible exact True.intro) | (with_reducible rfl) | simp only [XC, ↓reduceIte, seval] | (with_reducible apply And.intro) | (refine ⟨_, rfl, ?_⟩) | (simp [colC]; done) | exact aS | fail)))
  · rintro ⟨⟨k, v⟩, hk⟩
    simp only at hk ⊢
    by_cases hkl : k < l.length
    · have r1 : decide ((k : Int) < (l.length : Int)) = true := decide_eq_true (by omega)
      have u1 : IntKind.i64.wrap ((k : Int) + 1) = ((k + 1 : Nat) : Int) := by rw [IntWalk.i64_in _ (by omega)]; omega
      have hnx := colC_next (i := i) hkl
      have hcl : (colC i (l.take k)).length = k := by rw [colC_len, List.length_take]; omega
      have hs := getD_map eA [] ⟨false, []⟩ l k hkl
      have hg : l.getD k ⟨false, []⟩ = l[k] := by simp [List.getD_eq_getElem?_getD, hkl]
      rw [hg] at hs
      have hin := ha l[k] (List.getElem_mem hkl)
      generalize l[k] = a at hs hnx hin
      obtain ⟨ck, row⟩ := a
      generalize colC i (l.take k) = C at *
      simp only at hnx hin
      cases ck with
      | false =>
        repeat' (first | simp (maxSteps := 9999999) only [↓GE, PL, PP, EE, QQ, seval, r1, u1, hs, hkl, hcl, eA, List.length_map] | (simp (disch := omega) only [IntWalk.i64_in]) | (refine go_brD (fun h => ?_) (fun h => ?_)) | (refine go_gsD aE (fun h => ?_) (fun h => ?_)) | (refine go_br (fun h => ?_) (fun h => ?_)) | (refine go_gs aE (fun h => ?_) (fun h => ?_)) | (with_reducible apply And.intro) | exact aG | fail)
        simp only [Bool.false_eq_true, if_false] at hnx
        refine ⟨[], [], ⟨(k + 1, v + 1), hkl⟩, ?_, by simp only; omega⟩
        simp only [GeZ]; (simp only [GeS]; refine ⟨?_, ?_, ?_, ?_⟩; all_goals (repeat' (first | (with_reducible exact True.intro) | (with_reducible rfl) | simp only [XC, ↓reduceIte, seval] | (with_reducible apply And.intro) | (refine ⟨_, rfl, ?_⟩) | (simp [hnx, eC]; done) | exact aS | fail)))
      | true =>
        obtain ⟨h2, h3⟩ := hin rfl
        have hs2 := getD_map eI [] 0 row i (by omega)
        have hir : i < row.length := by omega
        repeat' (first | simp (maxSteps := 9999999) only [↓GE, PL, PP, EE, QQ, seval, r1, u1, hs, hkl, hcl, hs2, hir, eA, eI, List.length_map] | (simp (disch := omega) only [IntWalk.i64_in]) | (refine go_brD (fun h => ?_) (fun h => ?_)) | (refine go_gsD aE (fun h => ?_) (fun h => ?_)) | (refine go_br (fun h => ?_) (fun h => ?_)) | (refine go_gs aE (fun h => ?_) (fun h => ?_)) | (with_reducible apply And.intro) | exact aG | fail)
        simp only [if_true] at hnx
        refine ⟨[], [], ⟨(k + 1, v + 1), hkl⟩, ?_, by simp only; omega⟩
        simp only [GeZ]; (simp only [GeS]; refine ⟨?_, ?_, ?_, ?_⟩; all_goals (repeat' (first | (with_reducible exact True.intro) | (with_reducible rfl) | simp only [XC, ↓reduceIte, seval] | (with_reducible apply And.intro) | (refine ⟨_, rfl, ?_⟩) | (simp [hnx, eC]; done) | exact aS | fail)))
    · obtain rfl : k = l.length := by omega
      have r1 : decide ((l.length : Int) < (l.length : Int)) = false := decide_eq_false (by omega)
      rw [List.take_length]
      repeat' (first | simp (maxSteps := 9999999) only [↓GE, PL, PP, EE, QQ, seval, r1] | (simp (disch := omega) only [IntWalk.i64_in]) | (refine go_brD (fun h => ?_) (fun h => ?_)) | (refine go_gsD aE (fun h => ?_) (fun h => ?_)) | (refine go_br (fun h => ?_) (fun h => ?_)) | (refine go_gs aE (fun h => ?_) (fun h => ?_)) | (apply go_call 5000 (e1) rfl rfl; iterate 4 (first | (exact CallForm.plain rfl) | exact aC)) | (with_reducible apply And.intro) | exact aG | fail)
      all_goals ((first | apply ret_mk [] | apply end_mk []); (· exact aR); (· exact aZ); all_goals exact aF)
theorem sortAt (l : List Int) (i u : Nat) (hi : i < 1000000) (hl : l.length ≤ 12) : Does Tryz.prog 44 [.og i u] [(i, .arr u 1 true (l.map eI))] (.tu []) [(i, .arr u 1 true ((sortF l).map eI))] [] := by
  have h := (sortA l hl).nm [(900000, i, u)] (by simp [rhoOK, hi]) rfl rfl rfl (by simp [O.wfB, eI]) (by simp [O.wfB, eI]) rfl rfl rfl
  simpa [V.nms, V.nm, nmU, rl, O.addv, I, Nat.add_comm] using h
/-- The polynomials of all columns, and who is wrong. -/
def polysF (p : Int) (need w : Nat) (l : List PAns) : List (List Int) := (List.range w).map fun i => decP p (colC i l) need
def wrgsF (p : Int) (need w : Nat) (l : List PAns) : List Int := (List.range w).flatMap fun i => wrN p (decP p (colC i l) need) 0 (colC i l)
theorem polysF_next {p : Int} {need w : Nat} {l : List PAns} : polysF p need (w + 1) l = polysF p need w l ++ [decP p (colC w l) need] := by simp [polysF, List.range_succ]
theorem wrgsF_next {p : Int} {need w : Nat} {l : List PAns} : wrgsF p need (w + 1) l = wrgsF p need w l ++ wrN p (decP p (colC w l) need) 0 (colC w l) := by simp [wrgsF, List.range_succ]
theorem wrgsF_len {p : Int} {need : Nat} {l : List PAns} : ∀ {w : Nat}, (wrgsF p need w l).length ≤ w * l.length
  | 0 => by simp [wrgsF]
  | w + 1 => by
    rw [wrgsF_next, List.length_append, Nat.succ_mul]
    have h1 := wrgsF_len (p := p) (need := need) (l := l) (w := w)
    have h2 := wrN_len (p := p) (f := decP p (colC w l) need) 0 (colC w l)
    rw [colC_len] at h2
    omega
/-- All columns can be decoded, and few are wrong, each once. -/
structure ColsOK (p : Int) (need w : Nat) (l : List PAns) : Prop where
  ok : ∀ i, i < w → DecOK p (colC i l) need
  few : (wrgsF p need w l).length ≤ 12
  once : ∀ i, i + 1 < (sortF (wrgsF p need w l)).length → (sortF (wrgsF p need w l)).getD (i + 1) 0 ≠ (sortF (wrgsF p need w l)).getD i 0
theorem sortF_len {l : List Int} : (sortF l).length = l.length := sorts_len
theorem allT (p : Int) (w need : Nat) (l : List PAns) (hf : fieldB p = true) (hw : w ≤ 64) (hl : l.length ≤ 32) (hlp : (l.length : Int) < p) (ha : AnsOK p w l) (h1 : 1 ≤ need) (hn : need ≤ cntA l) (ho : ColsOK p need w l) :
    Does Tryz.prog 27 [.ag [I p, I need, .d (dAns l)], I w, .cl 28 []] [] (.tu [.d (dRows (polysF p need w l)), .d (dInts (sortF (wrgsF p need w l))), I 0]) [] [] := by
  refine go_columns_Columns_All rfl BxOK.nil fun cx hm0 => go_in 5000 ?_
  unfold ac_columns_Columns_All rs_columns_Columns_All
  repeat' (first | simp (maxSteps := 9999999) only [↓GE, PL, PP, EE, QQ, seval] | (simp (disch := omega) only [IntWalk.i64_in]) | (refine go_brD (fun h => ?_) (fun h => ?_)) | (refine go_gsD aE (fun h => ?_) (fun h => ?_)) | (refine go_br (fun h => ?_) (fun h => ?_)) | (refine go_gs aE (fun h => ?_) (fun h => ?_)) | (with_reducible apply And.intro) | exact aG | fail)
  refine go_loopz 5000 hm0 (ι := {q : Nat × Nat × Nat // q.1 ≤ w}) (fun q => [(2, .cl 28 []), (3, .bp 3 0 0), (9, .og 31 q.1.2.1), (10, .og 35 q.1.2.2), (14, I w), (15, I q.1.1)]) (fun q => [(3, .box 0 [I p, I need, .d (dAns l)]), (31, .arr q.1.2.1 1 true ((polysF p need q.1.1 l).map eR)), (35, .arr q.1.2.2 1 true ((wrgsF p need q.1.1 l).map eI))]) (fun q => w - q.1.1) [] [31, 35] ⟨(0, 0, 0), Nat.zero_le _⟩ ?_ ?_
  · simp only [GeZ]; (simp only [GeS]; refine ⟨?_, ?_, ?_, ?_⟩; all_goals (repeat' (first | (with_reducible exact True.intro) | (with_reducible rfl) | simp only [XC, ↓reduceIte, seval] | (with_reducible apply And.intro) | (refine ⟨_, rfl, ?_⟩) | (simp [polysF, wrgsF]; done) | exact aS | fail)))
  · rintro ⟨⟨i, v, u⟩, hi⟩
    simp only at hi ⊢
    by_cases hiw : i < w
    · have r1 : decide ((i : Int) < (w : Int)) = true := decide_eq_true (by omega)
      have u1 : IntKind.i64.wrap ((i : Int) + 1) = ((i + 1 : Nat) : Int) := by rw [IntWalk.i64_in _ (by omega)]; omega
      have e1 := columnT p w need i l hf hw hiw hl hlp ha h1 hn (ho.ok i hiw)
      have hpn := polysF_next (p := p) (need := need) (w := i) (l := l)
      have hwn := wrgsF_next (p := p) (need := need) (w := i) (l := l)
      have hpl : (polysF p need i l).length = i := by simp [polysF]
      have hwl := wrgsF_len (p := p) (need := need) (l := l) (w := i)
      have h2 := wrN_len (p := p) (f := decP p (colC i l) need) 0 (colC i l)
      rw [colC_len] at h2
      have h3 : i * l.length ≤ 64 * 32 := Nat.mul_le_mul (by omega) hl
      generalize decP p (colC i l) need = f at *
      generalize wrN p f 0 (colC i l) = wr at *
      generalize polysF p need i l = PP' at *
      generalize wrgsF p need i l = WW at *
      repeat' (first | simp (maxSteps := 9999999) only [↓GE, PL, PP, EE, QQ, seval, r1, u1, hpl, eR, List.length_map] | (simp (disch := omega) only [IntWalk.i64_in]) | (refine go_brD (fun h => ?_) (fun h => ?_)) | (refine go_gsD aE (fun h => ?_) (fun h => ?_)) | (refine go_br (fun h => ?_) (fun h => ?_)) | (refine go_gs aE (fun h => ?_) (fun h => ?_)) | (apply go_callv 5000 (e1) rfl (by kernel_rfl) rfl; iterate 4 (first | (exact CallForm.plain rfl) | exact aC)) | (with_reducible apply And.intro) | exact aG | fail)
      refine ⟨[], [], ⟨(i + 1, v + 1, u + 1), hiw⟩, ?_, by simp only; omega⟩
      simp only [GeZ]; (simp only [GeS]; refine ⟨?_, ?_, ?_, ?_⟩; all_goals (repeat' (first | (with_reducible exact True.intro) | (with_reducible rfl) | simp only [XC, ↓reduceIte, seval] | (with_reducible apply And.intro) | (refine ⟨_, rfl, ?_⟩) | (simp [hpn, hwn, eR, List.map_append]; done) | exact aS | fail)))
    · obtain rfl : i = w := by omega
      have r1 : decide ((i : Int) < (i : Int)) = false := decide_eq_false (by omega)
      have e1 := sortAt (wrgsF p need i l) 35 u (by decide) ho.few
      have e2 := compactT (sortF (wrgsF p need i l)) (by rw [sortF_len]; have := ho.few; omega) ho.once
      have e3 := cloneInts (sortF (wrgsF p need i l)) (by rw [sortF_len]; have := ho.few; omega)
      repeat' (first | simp (maxSteps := 9999999) only [↓GE, PL, PP, EE, QQ, seval, r1] | (simp (disch := omega) only [IntWalk.i64_in]) | (refine go_brD (fun h => ?_) (fun h => ?_)) | (refine go_gsD aE (fun h => ?_) (fun h => ?_)) | (refine go_br (fun h => ?_) (fun h => ?_)) | (refine go_gs aE (fun h => ?_) (fun h => ?_)) | (apply go_call 5000 (e1) rfl rfl; iterate 4 (first | (exact CallForm.lent aL rfl rfl) | exact aC)) | (apply go_call 5000 (e2) rfl rfl; iterate 4 (first | (exact CallForm.plain rfl) | exact aC)) | (apply go_call 5000 (e3) rfl rfl; iterate 4 (first | (exact CallForm.news rfl rfl) | exact aC)) | (with_reducible apply And.intro) | exact aG | fail)
      all_goals ((first | apply ret_mk [] | apply end_mk []); (· exact aR); (· exact aZ); all_goals exact aF)
end Go.Proofs.YthbhkkdaaipngaaGreatDoor.Sim
end
section
namespace Go.Proofs.YthbhkkdaaipngaaGreatDoor.Sim
open Go Go.RowKit Go.Deep
open Go.Proofs.YthbhkkdaaipngaaGreatDoor.Tw (WCell kn kn_len kn_all kn_next)
set_option maxRecDepth 100000
set_option maxHeartbeats 4000000
set_option linter.unusedVariables false
set_option linter.unusedSimpArgs false
attribute [local irreducible] Go Mean
def heads (l : List (List Int)) : List Int := l.map fun r => r.getD 0 0
theorem heads_next {l : List (List Int)} {k : Nat} (h : k < l.length) : heads (l.take (k + 1)) = heads (l.take k) ++ [(l.getD k []).getD 0 0] := by
  unfold heads
  rw [List.take_succ_eq_append_getElem h, List.map_append, List.getD_eq_getElem?_getD (l := l), List.getElem?_eq_getElem h]; rfl
theorem heads_len {l : List (List Int)} : (heads l).length = l.length := by simp [heads]
theorem polys_row {p : Int} {need w : Nat} {l : List PAns} (ho : ColsOK p need w l) {k : Nat} (hk : k < w) : ((polysF p need w l).getD k []).length ≤ need := by
  simp only [polysF, List.getD_eq_getElem?_getD, List.getElem?_map, List.getElem?_range hk, Option.map_some, Option.getD_some]
  exact (ho.ok k hk).len
theorem curveDecode (p s : Int) (d w : Nat) (l : List PAns) (hf : fieldB p = true) (hP : PlanOK s d) (hsp : s < p) (hls : (l.length : Int) = s) (hw : w ≤ 64) (ha : AnsOK p w l) (hn : d + 1 ≤ cntA l) (ho : ColsOK p (d + 1) w l) :
    Does Tryz.prog 18 [.ag [I p], .ag [I s, I d], I w, .d (dAns l)] [] (.tu [.ag [.d (dInts (heads (polysF p (d + 1) w l))), .d (dInts (sortF (wrgsF p (d + 1) w l)))], I 0]) [] [] := by
  refine go_curve_Decode rfl BxOK.nil fun cx hm0 => go_in 5000 ?_
  unfold ac_curve_Decode rs_curve_Decode
  have hs10 := hP.s10
  have hds := hP.ds
  have e1 := checkC p s d hf hP hsp
  have e2 := checkA p w (d + 1) l hw (by omega) ha hn
  rw [hls] at e2
  have e3 := allT p w (d + 1) l hf hw (by omega) (by omega) ha (by omega) hn ho
  have w1 : IntKind.i64.wrap ((d : Int) + 1) = ((d + 1 : Nat) : Int) := by rw [IntWalk.i64_in _ (by omega)]; omega
  have hpl : (polysF p (d + 1) w l).length = w := by simp [polysF]
  have hrow := fun k hk => polys_row ho (k := k) hk
  generalize polysF p (d + 1) w l = PS at *
  generalize sortF (wrgsF p (d + 1) w l) = WS at *
  repeat' (first | simp (maxSteps := 9999999) only [↓GE, PL, PP, EE, QQ, seval, w1, List.length_map] | (simp (disch := omega) only [IntWalk.i64_in]) | (refine go_brD (fun h => ?_) (fun h => ?_)) | (refine go_gsD aE (fun h => ?_) (fun h => ?_)) | (refine go_br (fun h => ?_) (fun h => ?_)) | (refine go_gs aE (fun h => ?_) (fun h => ?_)) | (apply go_call 5000 (e1) rfl rfl; iterate 4 (first | (exact CallForm.plain rfl) | exact aC)) | (apply go_call 5000 (e2) rfl rfl; iterate 4 (first | (exact CallForm.plain rfl) | exact aC)) | (apply go_call 5000 (e3) rfl rfl; iterate 4 (first | (exact CallForm.plain rfl) | exact aC)) | (with_reducible apply And.intro) | exact aG | fail)
  refine go_loopz 5000 hm0 (ι := {q : Nat × Nat // q.1 ≤ w}) (fun q => [(8, .bp 8 0 0), (9, I 0), (16, .bp 16 0 0), (58, .d (dRows PS)), (59, I PS.length), (60, I q.1.1)]) (fun q => [(8, .box 0 [.nl 1, .nl 1]), (16, .box 0 [.og 69 q.1.2, .d (dInts WS)]), (69, .arr q.1.2 1 true ((heads (PS.take q.1.1)).map eI))]) (fun q => w - q.1.1) [] [69] ⟨(0, 0), Nat.zero_le _⟩ ?_ ?_
  · simp only [GeZ]; (simp only [GeS]; refine ⟨?_, ?_, ?_, ?_⟩; all_goals (repeat' (first | (with_reducible exact True.intro) | (with_reducible rfl) | simp only [XC, ↓reduceIte, seval] | (with_reducible apply And.intro) | (refine ⟨_, rfl, ?_⟩) | (simp [heads]; done) | exact aS | fail)))
  · rintro ⟨⟨k, v⟩, hk⟩
    simp only at hk ⊢
    by_cases hkl : k < w
    · have r1 : decide ((k : Int) < (PS.length : Int)) = true := decide_eq_true (by omega)
      have u1 : IntKind.i64.wrap ((k : Int) + 1) = ((k + 1 : Nat) : Int) := by rw [IntWalk.i64_in _ (by omega)]; omega
      have hkp : k < PS.length := by omega
      have hnx := heads_next hkp
      have hs := getD_map eR [] [] PS k hkp
      have hhl : (heads (PS.take k)).length = k := by rw [heads_len, List.length_take]; omega
      have hr := hrow k hkl
      generalize PS.getD k [] = r at *
      generalize heads (PS.take k) = HH at *
      have e4 := coefficient r 0 (by omega) (by omega)
      repeat' (first | simp (maxSteps := 9999999) only [↓GE, PL, PP, EE, QQ, seval, r1, u1, hs, hkp, hhl, eR, List.length_map] | (simp (disch := omega) only [IntWalk.i64_in]) | (refine go_brD (fun h => ?_) (fun h => ?_)) | (refine go_gsD aE (fun h => ?_) (fun h => ?_)) | (refine go_br (fun h => ?_) (fun h => ?_)) | (refine go_gs aE (fun h => ?_) (fun h => ?_)) | (apply go_call 5000 (e4) rfl rfl; iterate 4 (first | (exact CallForm.plain rfl) | exact aC)) | (with_reducible apply And.intro) | exact aG | fail)
      refine ⟨[], [], ⟨(k + 1, v + 1), hkl⟩, ?_, by simp only; omega⟩
      simp only [GeZ]; (simp only [GeS]; refine ⟨?_, ?_, ?_, ?_⟩; all_goals (repeat' (first | (with_reducible exact True.intro) | (with_reducible rfl) | simp only [XC, ↓reduceIte, seval] | (with_reducible apply And.intro) | (refine ⟨_, rfl, ?_⟩) | (simp [hnx, eI]; done) | exact aS | fail)))
    · obtain rfl : k = w := by omega
      have r1 : decide ((k : Int) < (PS.length : Int)) = false := decide_eq_false (by omega)
      have ht : PS.take k = PS := List.take_of_length_le (by omega)
      rw [ht]
      repeat' (first | simp (maxSteps := 9999999) only [↓GE, PL, PP, EE, QQ, seval, r1] | (simp (disch := omega) only [IntWalk.i64_in]) | (refine go_brD (fun h => ?_) (fun h => ?_)) | (refine go_gsD aE (fun h => ?_) (fun h => ?_)) | (refine go_br (fun h => ?_) (fun h => ?_)) | (refine go_gs aE (fun h => ?_) (fun h => ?_)) | (with_reducible apply And.intro) | exact aG | fail)
      all_goals ((first | apply ret_mk [] | apply end_mk []); (· exact aR); (· exact aZ); all_goals exact aF)
/-- Queries as answers. -/
def qAns (qs : List (List Int)) : List PAns := qs.map fun q => ⟨true, q⟩
theorem qAns_len {qs : List (List Int)} : (qAns qs).length = qs.length := by simp [qAns]
theorem qAns_cnt : ∀ {qs : List (List Int)}, cntA (qAns qs) = qs.length
  | [] => rfl
  | q :: r => by
    have ih := qAns_cnt (qs := r)
    simp only [qAns, List.map_cons, cntA, if_true, List.length_cons] at ih ⊢
    omega
theorem qAns_next {qs : List (List Int)} {k : Nat} (h : k < qs.length) : qAns (qs.take (k + 1)) = qAns (qs.take k) ++ [⟨true, qs.getD k []⟩] := by
  unfold qAns
  rw [List.take_succ_eq_append_getElem h, List.map_append, List.getD_eq_getElem?_getD, List.getElem?_eq_getElem h]; rfl
theorem wantedT (p s : Int) (d n : Nat) (qs : List (List Int)) (hf : fieldB p = true) (hP : PlanOK s d) (hsp : s < p) (hls : (qs.length : Int) = s) (hn : n ≤ 64) (hq : ∀ q ∈ qs, q.length = n ∧ q.all (inE p) = true) (ho : ColsOK p (d + 1) n (qAns qs)) :
    Does Tryz.prog 16 [.ag [I p], .ag [I s, I d], .d (dRows qs)] [] (.tu [I (oneF 0 0 false (heads (polysF p (d + 1) n (qAns qs)))).1, B (oneF 0 0 false (heads (polysF p (d + 1) n (qAns qs)))).2, I 0]) [] [] := by
  refine go_curve_Wanted rfl BxOK.nil fun cx hm0 => go_in 5000 ?_
  unfold ac_curve_Wanted rs_curve_Wanted
  have hs2 := hP.s2
  have hs10 := hP.s10
  have hds := hP.ds
  have e1 := checkC p s d hf hP hsp
  have hA : AnsOK p n (qAns qs) := fun a h _ => by
    simp only [qAns, List.mem_map] at h
    obtain ⟨q, h1, rfl⟩ := h
    exact hq q h1
  have e3 := allT p n (d + 1) (qAns qs) hf hn (by rw [qAns_len]; omega) (by rw [qAns_len]; omega) hA (by omega) (by rw [qAns_cnt]; omega) ho
  have w1 : IntKind.i64.wrap ((d : Int) + 1) = ((d + 1 : Nat) : Int) := by rw [IntWalk.i64_in _ (by omega)]; omega
  have q1 : ((qs.length : Int) != s) = false := by rw [hls]; simp
  have hl0 : 0 < qs.length := by omega
  have h0 := getD_map eR [] [] qs 0 hl0
  have hq0 := hq _ (mem_getD [] qs 0 hl0)
  repeat' (first | simp (maxSteps := 9999999) only [↓GE, PL, PP, EE, QQ, seval, w1, q1, List.length_map] | (simp (disch := omega) only [IntWalk.i64_in]) | (refine go_brD (fun h => ?_) (fun h => ?_)) | (refine go_gsD aE (fun h => ?_) (fun h => ?_)) | (refine go_br (fun h => ?_) (fun h => ?_)) | (refine go_gs aE (fun h => ?_) (fun h => ?_)) | (apply go_call 5000 (e1) rfl rfl; iterate 4 (first | (exact CallForm.plain rfl) | exact aC)) | (with_reducible apply And.intro) | exact aG | fail)
  refine go_loopz 5000 hm0 (ι := {q : Nat × Nat // q.1 ≤ qs.length}) (fun q => [(2, .d (dRows qs)), (3, .bp 3 0 0), (6, I 0), (7, B false), (8, I 0), (10, .bp 10 0 0), (11, B true), (38, .d (dRows qs)), (39, I qs.length), (40, I q.1.1)]) (fun q => [(3, .box 0 [I p]), (10, .box 0 [I p, I (d + 1 : Nat), .og 68 q.1.2]), (68, .arr q.1.2 2 true ((qAns (qs.take q.1.1)).map eA))]) (fun q => qs.length - q.1.1) [] [68] ⟨(0, 0), Nat.zero_le _⟩ ?_ ?_
  · simp only [GeZ]; (simp only [GeS]; refine ⟨?_, ?_, ?_, ?_⟩; all_goals (repeat' (first | (with_reducible exact True.intro) | (with_reducible rfl) | simp only [XC, ↓reduceIte, seval] | (with_reducible apply And.intro) | (refine ⟨_, rfl, ?_⟩) | (simp [qAns]; done) | exact aS | fail)))
  · rintro ⟨⟨k, v⟩, hk⟩
    simp only at hk ⊢
    by_cases hkl : k < qs.length
    · have r1 : decide ((k : Int) < (qs.length : Int)) = true := decide_eq_true (by omega)
      have u1 : IntKind.i64.wrap ((k : Int) + 1) = ((k + 1 : Nat) : Int) := by rw [IntWalk.i64_in _ (by omega)]; omega
      have hnx := qAns_next hkl
      have hs := getD_map eR [] [] qs k hkl
      have hhl : (qAns (qs.take k)).length = k := by rw [qAns_len, List.length_take]; omega
      have hr := hq _ (mem_getD [] qs k hkl)
      generalize hq0' : qs.getD 0 [] = r0 at *
      generalize qs.getD k [] = r at *
      generalize qAns (qs.take k) = HH at *
      have e4 := allF p r (by omega)
      rw [hr.2] at e4
      have q2 : ((r.length : Int) != (r0.length : Int)) = false := by rw [hr.1, hq0.1]; simp
      have q3 : decide ((1024 : Int) < (r.length : Int)) = false := decide_eq_false (by omega)
      repeat' (first | simp (maxSteps := 9999999) only [↓GE, PL, PP, EE, QQ, seval, r1, u1, h0, hl0, hs, hkl, hhl, q2, q3, eR, List.length_map] | (simp (disch := omega) only [IntWalk.i64_in]) | (refine go_brD (fun h => ?_) (fun h => ?_)) | (refine go_gsD aE (fun h => ?_) (fun h => ?_)) | (refine go_br (fun h => ?_) (fun h => ?_)) | (refine go_gs aE (fun h => ?_) (fun h => ?_)) | (apply go_call 5000 (e4) rfl rfl; iterate 4 (first | (exact CallForm.plain rfl) | exact aC)) | (with_reducible apply And.intro) | exact aG | fail)
      refine ⟨[], [], ⟨(k + 1, v + 1), hkl⟩, ?_, by simp only; omega⟩
      simp only [GeZ]; (simp only [GeS]; refine ⟨?_, ?_, ?_, ?_⟩; all_goals (repeat' (first | (with_reducible exact True.intro) | (with_reducible rfl) | simp only [XC, ↓reduceIte, seval] | (with_reducible apply And.intro) | (refine ⟨_, rfl, ?_⟩) | (simp [hnx, eA]; done) | exact aS | fail)))
    · obtain rfl : k = qs.length := by omega
      have r1 : decide ((qs.length : Int) < (qs.length : Int)) = false := decide_eq_false (by omega)
      rw [List.take_length]
      generalize qs.getD 0 [] = r0 at *
      have hr0 : (r0.length : Int) = (n : Int) := by rw [hq0.1]
      have hpl : (polysF p (d + 1) n (qAns qs)).length = n := by simp [polysF]
      have hrow := fun k hk => polys_row ho (k := k) hk
      generalize polysF p (d + 1) n (qAns qs) = PS at *
      generalize sortF (wrgsF p (d + 1) n (qAns qs)) = WS at *
      repeat' (first | simp (maxSteps := 9999999) only [↓GE, PL, PP, EE, QQ, seval, r1, h0, hl0, hr0, eR, List.length_map] | (simp (disch := omega) only [IntWalk.i64_in]) | (refine go_brD (fun h => ?_) (fun h => ?_)) | (refine go_gsD aE (fun h => ?_) (fun h => ?_)) | (refine go_br (fun h => ?_) (fun h => ?_)) | (refine go_gs aE (fun h => ?_) (fun h => ?_)) | (apply go_call 5000 (e3) rfl rfl; iterate 4 (first | (exact CallForm.plain rfl) | exact aC)) | (with_reducible apply And.intro) | exact aG | fail)
      refine go_loopz 5000 hm0 (ι := {q : Nat × Nat // q.1 ≤ n}) (fun q => [(17, .og 95 q.1.2), (85, .d (dRows PS)), (86, I PS.length), (87, I q.1.1)]) (fun q => [(95, .arr q.1.2 1 true ((heads (PS.take q.1.1)).map eI))]) (fun q => n - q.1.1) [] [95] ⟨(0, 0), Nat.zero_le _⟩ ?_ ?_
      · simp only [GeZ]; (simp only [GeS]; refine ⟨?_, ?_, ?_, ?_⟩; all_goals (repeat' (first | (with_reducible exact True.intro) | (with_reducible rfl) | simp only [XC, ↓reduceIte, seval] | (with_reducible apply And.intro) | (refine ⟨_, rfl, ?_⟩) | (simp [heads]; done) | exact aS | fail)))
      · rintro ⟨⟨k, v⟩, hk⟩
        simp only at hk ⊢
        by_cases hkl : k < n
        · have r2 : decide ((k : Int) < (PS.length : Int)) = true := decide_eq_true (by omega)
          have u1 : IntKind.i64.wrap ((k : Int) + 1) = ((k + 1 : Nat) : Int) := by rw [IntWalk.i64_in _ (by omega)]; omega
          have hkp : k < PS.length := by omega
          have hnx := heads_next hkp
          have hs := getD_map eR [] [] PS k hkp
          have hhl : (heads (PS.take k)).length = k := by rw [heads_len, List.length_take]; omega
          have hr := hrow k hkl
          generalize PS.getD k [] = r at *
          generalize heads (PS.take k) = HH at *
          have e4 := coefficient r 0 (by omega) (by omega)
          repeat' (first | simp (maxSteps := 9999999) only [↓GE, PL, PP, EE, QQ, seval, r2, u1, hs, hkp, hhl, eR, List.length_map] | (simp (disch := omega) only [IntWalk.i64_in]) | (refine go_brD (fun h => ?_) (fun h => ?_)) | (refine go_gsD aE (fun h => ?_) (fun h => ?_)) | (refine go_br (fun h => ?_) (fun h => ?_)) | (refine go_gs aE (fun h => ?_) (fun h => ?_)) | (apply go_call 5000 (e4) rfl rfl; iterate 4 (first | (exact CallForm.plain rfl) | exact aC)) | (with_reducible apply And.intro) | exact aG | fail)
          refine ⟨[], [], ⟨(k + 1, v + 1), hkl⟩, ?_, by simp only; omega⟩
          simp only [GeZ]; (simp only [GeS]; refine ⟨?_, ?_, ?_, ?_⟩; all_goals (repeat' (first | (with_reducible exact True.intro) | (with_reducible rfl) | simp only [XC, ↓reduceIte, seval] | (with_reducible apply And.intro) | (refine ⟨_, rfl, ?_⟩) | (simp [hnx, eI]; done) | exact aS | fail)))
        · obtain rfl : k = n := by omega
          have r2 : decide ((k : Int) < (PS.length : Int)) = false := decide_eq_false (by omega)
          have ht : PS.take k = PS := List.take_of_length_le (by omega)
          rw [ht]
          have e5 := oneT (heads PS) (by rw [heads_len]; omega)
          repeat' (first | simp (maxSteps := 9999999) only [↓GE, PL, PP, EE, QQ, seval, r2] | (simp (disch := omega) only [IntWalk.i64_in]) | (refine go_brD (fun h => ?_) (fun h => ?_)) | (refine go_gsD aE (fun h => ?_) (fun h => ?_)) | (refine go_br (fun h => ?_) (fun h => ?_)) | (refine go_gs aE (fun h => ?_) (fun h => ?_)) | (apply go_call 5000 (e5) rfl rfl; iterate 4 (first | (exact CallForm.plain rfl) | exact aC)) | (with_reducible apply And.intro) | exact aG | fail)
          all_goals ((first | apply ret_mk [] | apply end_mk []); (· exact aR); (· exact aZ); all_goals exact aF)
end Go.Proofs.YthbhkkdaaipngaaGreatDoor.Sim
end
