/- Rows that are recovered; what hints have to do with rows, in plain terms. -/
import Derived.Test.YtilkjcobkdjlkaaUhG
namespace Go.Proofs.Ytilkjcobkdjlkaa.Sim
open Go
set_option maxRecDepth 100000
set_option maxHeartbeats 4000000
set_option linter.unusedVariables false
set_option linter.unusedSimpArgs false
attribute [local irreducible] Go Mean
def fillN (f : Nat → Int) (n k : Nat) : List Int := (List.range n).map fun i => if i < k then f i else 0
theorem fillN_len {f : Nat → Int} {n k : Nat} : (fillN f n k).length = n := by simp [fillN]
theorem fillN_zero {f : Nat → Int} {n : Nat} : (fillN f n 0).map eI = List.replicate n [D.at (.int .i64 0)] := by
  apply List.ext_getElem (by simp [fillN])
  intro i h1 h2
  simp [fillN, eI]
theorem fillN_get {f : Nat → Int} {n k i : Nat} (h : i < n) : (fillN f n k).getD i 0 = if i < k then f i else 0 := by simp [fillN, List.getD_eq_getElem?_getD, h]
theorem fillN_next {f : Nat → Int} {n k : Nat} (h : k < n) : (fillN f n k).set k (f k) = fillN f n (k + 1) := by
  apply List.ext_getElem (by simp [fillN])
  intro i h1 h2
  simp only [fillN, List.getElem_set, List.getElem_map, List.getElem_range]
  by_cases e : k = i
  · subst e; simp
  · rw [if_neg e]
    by_cases h3 : i < k
    · rw [if_pos h3, if_pos (by omega)]
    · rw [if_neg h3, if_neg (by omega)]
def recE (p : Int) (s a : List Int) (v : Int) (i : Nat) : Int := (s.getD i 0 - a.getD i 0 + p) % p * v % p
def recL (p : Int) (s a : List Int) (v : Int) : List Int := fillN (recE p s a v) s.length s.length
noncomputable def recF (p : Int) (h : PHint) (ix : Int) (a : List Int) : List Int × Int := if lookH p h ix a ≠ 0 then ([], lookH p h ix a) else if a.length ≠ h.sum.length then ([], 2) else if h.fac.getD ix.toNat 0 = 0 then ([], 10) else (recL p h.sum a (invI p (h.fac.getD ix.toNat 0)), 0)
theorem hrecover (p : Int) (x : PHint) (ix : Int) (a : List Int) (hl : x.fac.length ≤ 1000000) (hs : x.sum.length ≤ 1000000) (ha : a.length ≤ 1000000) : Does Try.prog 20 [.ag [I p], vHint x, I ix, .d (dInts a)] [] (.tu [.d (dInts (recF p x ix a).1), I (recF p x ix a).2]) [] [] := by
  refine go_hint_Recover rfl BxOK.nil fun cx hm0 => go_in 5000 ?_
  unfold ac_hint_Recover rs_hint_Recover
  have e1 := hlook p x ix a hl hs ha
  unfold recF
  rcases lookH_cases p x ix a with h | h | ⟨h, h1, h2, h3, h4, h5, h6⟩
  · rw [h] at e1 ⊢
    rw [if_pos (by decide)]
    repeat' (first | simp (maxSteps := 9999999) only [↓GE, PL, PP, EE, QQ, seval] | (simp (disch := omega) only [IntWalk.i64_in]) | (refine go_brD (fun h => ?_) (fun h => ?_)) | (refine go_gsD (by ((try simp only [EE, QQ, seval]) <;> rfl)) (fun h => ?_) (fun h => ?_)) | (refine go_br (fun h => ?_) (fun h => ?_)) | (refine go_gs (by ((try simp only [EE, QQ, seval]) <;> rfl)) (fun h => ?_) (fun h => ?_)) | (apply go_call 5000 (e1) rfl rfl; (· ((try simp only [CC, LL, NM, EE, QQ, seval]) <;> (first | rfl | ((repeat constructor); done)))); (· exact CallForm.plain rfl); (· ((try simp only [CC, LL, NM, EE, QQ, seval]) <;> (first | rfl | ((repeat constructor); done)))); (· ((try simp only [CC, LL, NM, EE, QQ, seval]) <;> (first | rfl | ((repeat constructor); done))))) | (with_reducible apply And.intro) | (with_reducible exact trivial) | omega | (simp only [List.length_map, List.length_cons, List.length_nil] at *; omega) | (show _ = true; first | rfl | kernel_rfl))
    all_goals ((first | apply ret_mk [] | apply end_mk []); (· ((try simp only [CC, LL, EE, QQ, seval]) <;> rfl)); (· ((try simp only [CC, LL, EE, QQ, seval]) <;> repeat' (first | (with_reducible apply And.intro) | rfl | trivial | (exact ⟨_, rfl⟩) | (exact ⟨_, _, _, rfl⟩) | (simp [*, ]; done) | (simp [*, ]; omega) | (simp_all []; done) | (simp_all []; omega)))); all_goals (first | trivial | decide | ((try simp only [CC, LL, EE, QQ, seval]) <;> repeat' (first | (with_reducible apply And.intro) | (exact ⟨_, rfl, rfl, rfl⟩) | (exact ⟨_, _, _, rfl⟩) | (exact ⟨_, rfl⟩) | trivial | rfl | (simp; done)))))
  · rw [h] at e1 ⊢
    rw [if_pos (by decide)]
    repeat' (first | simp (maxSteps := 9999999) only [↓GE, PL, PP, EE, QQ, seval] | (simp (disch := omega) only [IntWalk.i64_in]) | (refine go_brD (fun h => ?_) (fun h => ?_)) | (refine go_gsD (by ((try simp only [EE, QQ, seval]) <;> rfl)) (fun h => ?_) (fun h => ?_)) | (refine go_br (fun h => ?_) (fun h => ?_)) | (refine go_gs (by ((try simp only [EE, QQ, seval]) <;> rfl)) (fun h => ?_) (fun h => ?_)) | (apply go_call 5000 (e1) rfl rfl; (· ((try simp only [CC, LL, NM, EE, QQ, seval]) <;> (first | rfl | ((repeat constructor); done)))); (· exact CallForm.plain rfl); (· ((try simp only [CC, LL, NM, EE, QQ, seval]) <;> (first | rfl | ((repeat constructor); done)))); (· ((try simp only [CC, LL, NM, EE, QQ, seval]) <;> (first | rfl | ((repeat constructor); done))))) | (with_reducible apply And.intro) | (with_reducible exact trivial) | omega | (simp only [List.length_map, List.length_cons, List.length_nil] at *; omega) | (show _ = true; first | rfl | kernel_rfl))
    all_goals ((first | apply ret_mk [] | apply end_mk []); (· ((try simp only [CC, LL, EE, QQ, seval]) <;> rfl)); (· ((try simp only [CC, LL, EE, QQ, seval]) <;> repeat' (first | (with_reducible apply And.intro) | rfl | trivial | (exact ⟨_, rfl⟩) | (exact ⟨_, _, _, rfl⟩) | (simp [*, ]; done) | (simp [*, ]; omega) | (simp_all []; done) | (simp_all []; omega)))); all_goals (first | trivial | decide | ((try simp only [CC, LL, EE, QQ, seval]) <;> repeat' (first | (with_reducible apply And.intro) | (exact ⟨_, rfl, rfl, rfl⟩) | (exact ⟨_, _, _, rfl⟩) | (exact ⟨_, rfl⟩) | trivial | rfl | (simp; done)))))
  rw [h] at e1 ⊢
  rw [if_neg (by decide)]
  by_cases hn : a.length ≠ x.sum.length
  · rw [if_pos hn]
    have q : ((a.length : Int) != (x.sum.length : Int)) = true := by simp; omega
    repeat' (first | simp (maxSteps := 9999999) only [↓GE, PL, PP, EE, QQ, seval, q, List.length_map] | (simp (disch := omega) only [IntWalk.i64_in]) | (refine go_brD (fun h => ?_) (fun h => ?_)) | (refine go_gsD (by ((try simp only [EE, QQ, seval]) <;> rfl)) (fun h => ?_) (fun h => ?_)) | (refine go_br (fun h => ?_) (fun h => ?_)) | (refine go_gs (by ((try simp only [EE, QQ, seval]) <;> rfl)) (fun h => ?_) (fun h => ?_)) | (apply go_call 5000 (e1) rfl rfl; (· ((try simp only [CC, LL, NM, EE, QQ, seval]) <;> (first | rfl | ((repeat constructor); done)))); (· exact CallForm.plain rfl); (· ((try simp only [CC, LL, NM, EE, QQ, seval]) <;> (first | rfl | ((repeat constructor); done)))); (· ((try simp only [CC, LL, NM, EE, QQ, seval]) <;> (first | rfl | ((repeat constructor); done))))) | (with_reducible apply And.intro) | (with_reducible exact trivial) | omega | (simp only [List.length_map, List.length_cons, List.length_nil] at *; omega) | (show _ = true; first | rfl | kernel_rfl))
    all_goals ((first | apply ret_mk [] | apply end_mk []); (· ((try simp only [CC, LL, EE, QQ, seval]) <;> rfl)); (· ((try simp only [CC, LL, EE, QQ, seval]) <;> repeat' (first | (with_reducible apply And.intro) | rfl | trivial | (exact ⟨_, rfl⟩) | (exact ⟨_, _, _, rfl⟩) | (simp [*, ]; done) | (simp [*, ]; omega) | (simp_all []; done) | (simp_all []; omega)))); all_goals (first | trivial | decide | ((try simp only [CC, LL, EE, QQ, seval]) <;> repeat' (first | (with_reducible apply And.intro) | (exact ⟨_, rfl, rfl, rfl⟩) | (exact ⟨_, _, _, rfl⟩) | (exact ⟨_, rfl⟩) | trivial | rfl | (simp; done)))))
  rw [if_neg hn]
  have hn' : a.length = x.sum.length := by omega
  have q : ((a.length : Int) != (x.sum.length : Int)) = false := by simp; omega
  have q2 : decide (ix < 0) = false := decide_eq_false (by omega)
  have hsx := getD_map eI [] 0 x.fac ix.toNat h6
  have hx := all_getD h2 h6
  generalize x.fac.getD ix.toNat 0 = c at *
  have e2 := finverse p c h1 hx
  obtain ⟨hp2, hp3, -⟩ := fieldB_iff.1 h1
  by_cases hc : c = 0
  · rw [if_pos hc]
    rw [invF, if_pos hc] at e2
    simp only at e2
    repeat' (first | simp (maxSteps := 9999999) only [↓GE, PL, PP, EE, QQ, seval, q, q2, hsx, h6, eI, List.length_map] | (simp (disch := omega) only [IntWalk.i64_in]) | (refine go_brD (fun h => ?_) (fun h => ?_)) | (refine go_gsD (by ((try simp only [EE, QQ, seval]) <;> rfl)) (fun h => ?_) (fun h => ?_)) | (refine go_br (fun h => ?_) (fun h => ?_)) | (refine go_gs (by ((try simp only [EE, QQ, seval]) <;> rfl)) (fun h => ?_) (fun h => ?_)) | (apply go_call 5000 (e1) rfl rfl; (· ((try simp only [CC, LL, NM, EE, QQ, seval]) <;> (first | rfl | ((repeat constructor); done)))); (· exact CallForm.plain rfl); (· ((try simp only [CC, LL, NM, EE, QQ, seval]) <;> (first | rfl | ((repeat constructor); done)))); (· ((try simp only [CC, LL, NM, EE, QQ, seval]) <;> (first | rfl | ((repeat constructor); done))))) | (apply go_call 5000 (e2) rfl rfl; (· ((try simp only [CC, LL, NM, EE, QQ, seval]) <;> (first | rfl | ((repeat constructor); done)))); (· exact CallForm.plain rfl); (· ((try simp only [CC, LL, NM, EE, QQ, seval]) <;> (first | rfl | ((repeat constructor); done)))); (· ((try simp only [CC, LL, NM, EE, QQ, seval]) <;> (first | rfl | ((repeat constructor); done))))) | (with_reducible apply And.intro) | (with_reducible exact trivial) | omega | (simp only [List.length_map, List.length_cons, List.length_nil] at *; omega) | (show _ = true; first | rfl | kernel_rfl))
    all_goals ((first | apply ret_mk [] | apply end_mk []); (· ((try simp only [CC, LL, EE, QQ, seval]) <;> rfl)); (· ((try simp only [CC, LL, EE, QQ, seval]) <;> repeat' (first | (with_reducible apply And.intro) | rfl | trivial | (exact ⟨_, rfl⟩) | (exact ⟨_, _, _, rfl⟩) | (simp [*, ]; done) | (simp [*, ]; omega) | (simp_all []; done) | (simp_all []; omega)))); all_goals (first | trivial | decide | ((try simp only [CC, LL, EE, QQ, seval]) <;> repeat' (first | (with_reducible apply And.intro) | (exact ⟨_, rfl, rfl, rfl⟩) | (exact ⟨_, _, _, rfl⟩) | (exact ⟨_, rfl⟩) | trivial | rfl | (simp; done)))))
  rw [if_neg hc]
  rw [invF, if_neg hc] at e2
  simp only at e2
  have hinv := invI_in (p := p) (a := c) hp2
  generalize invI p c = v at *
  repeat' (first | simp (maxSteps := 9999999) only [↓GE, PL, PP, EE, QQ, seval, q, q2, hsx, h6, eI, List.length_map] | (simp (disch := omega) only [IntWalk.i64_in]) | (refine go_brD (fun h => ?_) (fun h => ?_)) | (refine go_gsD (by ((try simp only [EE, QQ, seval]) <;> rfl)) (fun h => ?_) (fun h => ?_)) | (refine go_br (fun h => ?_) (fun h => ?_)) | (refine go_gs (by ((try simp only [EE, QQ, seval]) <;> rfl)) (fun h => ?_) (fun h => ?_)) | (apply go_call 5000 (e1) rfl rfl; (· ((try simp only [CC, LL, NM, EE, QQ, seval]) <;> (first | rfl | ((repeat constructor); done)))); (· exact CallForm.plain rfl); (· ((try simp only [CC, LL, NM, EE, QQ, seval]) <;> (first | rfl | ((repeat constructor); done)))); (· ((try simp only [CC, LL, NM, EE, QQ, seval]) <;> (first | rfl | ((repeat constructor); done))))) | (apply go_call 5000 (e2) rfl rfl; (· ((try simp only [CC, LL, NM, EE, QQ, seval]) <;> (first | rfl | ((repeat constructor); done)))); (· exact CallForm.plain rfl); (· ((try simp only [CC, LL, NM, EE, QQ, seval]) <;> (first | rfl | ((repeat constructor); done)))); (· ((try simp only [CC, LL, NM, EE, QQ, seval]) <;> (first | rfl | ((repeat constructor); done))))) | (with_reducible apply And.intro) | (with_reducible exact trivial) | omega | (simp only [List.length_map, List.length_cons, List.length_nil] at *; omega) | (show _ = true; first | rfl | kernel_rfl))
  refine go_loop 5000 hm0 (ι := {k : Nat // k ≤ x.sum.length}) (fun i => [(3, .d (dInts a)), (4, .bp 4 0 0), (11, I v), (13, .og 48 0), (50, .d (dInts x.sum)), (51, I x.sum.length), (52, I i.1)]) (fun i => [(4, .box 0 [I p]), (48, .arr 0 1 true ((fillN (recE p x.sum a v) x.sum.length i.1).map eI))]) (fun i => x.sum.length - i.1) [] ⟨0, Nat.zero_le _⟩ ?_ ?_
  · (simp only [GeS]; refine ⟨?_, ?_, ?_, ?_⟩; all_goals (repeat' (first | trivial | (with_reducible rfl) | simp only [CC, LL, EE, QQ, seval] | (with_reducible apply And.intro) | rfl | (refine ⟨_, rfl, ?_⟩) | (simp [fillN_zero]; done) | omega)))
  · rintro ⟨k, hk⟩
    simp only
    by_cases hkl : k < x.sum.length
    · have hs1 := getD_map eI [] 0 x.sum k hkl
      have hs2 := getD_map eI [] 0 a k (by omega)
      have b1 := all_getD h3 hkl
      have b2 := all_getD h4 (i := k) (by omega)
      have hN := fillN_next (f := recE p x.sum a v) hkl
      have hN1 : recE p x.sum a v k = (x.sum.getD k 0 - a.getD k 0 + p) % p * v % p := rfl
      rw [hN1] at hN
      have hs3 := getD_map eI [] 0 (fillN (recE p x.sum a v) x.sum.length k) k (by rw [fillN_len]; exact hkl)
      have qk : k < (fillN (recE p x.sum a v) x.sum.length k).length := by rw [fillN_len]; exact hkl
      generalize x.sum.getD k 0 = s at hs1 b1 hN
      generalize a.getD k 0 = y at hs2 b2 hN
      have e3 := fieldSub p s y h1 b1 b2
      have e4 := fieldMul p ((s - y + p) % p) v h1 ⟨Int.emod_nonneg _ (by omega), Int.emod_lt_of_pos _ (by omega)⟩ hinv
      repeat' (first | simp (maxSteps := 9999999) only [↓GE, PL, PP, EE, QQ, seval, hs1, hs2, hs3, qk, eI, List.length_map] | (simp (disch := omega) only [IntWalk.i64_in]) | (refine go_brD (fun h => ?_) (fun h => ?_)) | (refine go_gsD (by ((try simp only [EE, QQ, seval]) <;> rfl)) (fun h => ?_) (fun h => ?_)) | (refine go_br (fun h => ?_) (fun h => ?_)) | (refine go_gs (by ((try simp only [EE, QQ, seval]) <;> rfl)) (fun h => ?_) (fun h => ?_)) | (apply go_call 5000 (e3) rfl rfl; (· ((try simp only [CC, LL, NM, EE, QQ, seval]) <;> (first | rfl | ((repeat constructor); done)))); (· exact CallForm.plain rfl); (· ((try simp only [CC, LL, NM, EE, QQ, seval]) <;> (first | rfl | ((repeat constructor); done)))); (· ((try simp only [CC, LL, NM, EE, QQ, seval]) <;> (first | rfl | ((repeat constructor); done))))) | (apply go_call 5000 (e4) rfl rfl; (· ((try simp only [CC, LL, NM, EE, QQ, seval]) <;> (first | rfl | ((repeat constructor); done)))); (· exact CallForm.plain rfl); (· ((try simp only [CC, LL, NM, EE, QQ, seval]) <;> (first | rfl | ((repeat constructor); done)))); (· ((try simp only [CC, LL, NM, EE, QQ, seval]) <;> (first | rfl | ((repeat constructor); done))))) | (with_reducible apply And.intro) | (with_reducible exact trivial) | omega | (simp only [List.length_map, List.length_cons, List.length_nil] at *; omega) | (show _ = true; first | rfl | kernel_rfl))
      refine ⟨⟨k + 1, hkl⟩, ?_, by simp only; omega⟩
      (simp only [GeS]; refine ⟨?_, ?_, ?_, ?_⟩; all_goals (repeat' (first | trivial | (with_reducible rfl) | simp only [CC, LL, EE, QQ, seval] | (with_reducible apply And.intro) | rfl | (refine ⟨_, rfl, ?_⟩) | (simp [← hN, List.map_set, eI]; done) | omega)))
    · obtain rfl : k = x.sum.length := by omega
      repeat' (first | simp (maxSteps := 9999999) only [↓GE, PL, PP, EE, QQ, seval] | (simp (disch := omega) only [IntWalk.i64_in]) | (refine go_brD (fun h => ?_) (fun h => ?_)) | (refine go_gsD (by ((try simp only [EE, QQ, seval]) <;> rfl)) (fun h => ?_) (fun h => ?_)) | (refine go_br (fun h => ?_) (fun h => ?_)) | (refine go_gs (by ((try simp only [EE, QQ, seval]) <;> rfl)) (fun h => ?_) (fun h => ?_)) | (with_reducible apply And.intro) | (with_reducible exact trivial) | omega | (simp only [List.length_map, List.length_cons, List.length_nil] at *; omega) | (show _ = true; first | rfl | kernel_rfl))
      all_goals ((first | apply ret_mk [] | apply end_mk []); (· ((try simp only [CC, LL, EE, QQ, seval]) <;> rfl)); (· ((try simp only [CC, LL, EE, QQ, seval]) <;> repeat' (first | (with_reducible apply And.intro) | rfl | trivial | (exact ⟨_, rfl⟩) | (exact ⟨_, _, _, rfl⟩) | (simp [*, recL]; done) | (simp [*, recL]; omega) | (simp_all [recL]; done) | (simp_all [recL]; omega)))); all_goals (first | trivial | decide | ((try simp only [CC, LL, EE, QQ, seval]) <;> repeat' (first | (with_reducible apply And.intro) | (exact ⟨_, rfl, rfl, rfl⟩) | (exact ⟨_, _, _, rfl⟩) | (exact ⟨_, rfl⟩) | trivial | rfl | (simp; done)))))
theorem emod_mulL (a b p : Int) : a % p * b % p = a * b % p := by rw [Int.mul_emod, Int.emod_emod, ← Int.mul_emod]
/-- A sum of products, at one place of the rows. -/
def sumN (c : List Int) (rows : List (List Int)) (k : Nat) : Nat → Int
  | 0 => 0
  | n + 1 => sumN c rows k n + c.getD n 0 * (rows.getD n []).getD k 0
theorem combN_sum {p : Int} {w : Nat} {c : List Int} {rows : List (List Int)} {k : Nat} (hk : k < w) : ∀ {n : Nat}, (combN p w c rows n).getD k 0 = sumN c rows k n % p
  | 0 => by simp [combN, sumN, List.getD_eq_getElem?_getD, hk]
  | n + 1 => by
    rw [combN, addStep_get (by rw [combN_len]; exact hk), if_pos hk, combN_sum hk, sumN]
    rw [Int.add_emod_emod, Int.emod_add_emod]
theorem sumN_add {p : Int} {a b : List Int} {rows : List (List Int)} {k : Nat} (hl : a.length = b.length) : ∀ {n : Nat}, n ≤ a.length → sumN (addL p a b) rows k n % p = (sumN a rows k n + sumN b rows k n) % p
  | 0, _ => by simp [sumN]
  | n + 1, h => by
    have ih := sumN_add (p := p) (rows := rows) (k := k) hl (n := n) (by omega)
    simp only [sumN]
    have hg : (addL p a b).getD n 0 = (a.getD n 0 + b.getD n 0) % p := by
      have : n < a.length := by omega
      simp [addL, addN, List.getD_eq_getElem?_getD, this]
    rw [hg]
    generalize a.getD n 0 = x
    generalize b.getD n 0 = y
    generalize (rows.getD n []).getD k 0 = r
    rw [Int.add_emod, ih, emod_mulL, ← Int.add_emod, Int.add_mul]
    congr 1; omega
theorem list_ext {a b : List Int} (h : a.length = b.length) (hg : ∀ k, k < a.length → a.getD k 0 = b.getD k 0) : a = b := (eq_iff_get 0 a b h).2 hg
theorem combL_add {p : Int} {w : Nat} {a b : List Int} {rows : List (List Int)} (hl : a.length = b.length) (hr : rows.length = a.length) : addL p (combL p w a rows) (combL p w b rows) = combL p w (addL p a b) rows := by
  apply list_ext
  · rw [combL_len, addL, addN_len, combL_len]
  · intro k hk
    rw [addL, addN_len, combL_len] at hk
    have hg : (addL p (combL p w a rows) (combL p w b rows)).getD k 0 = ((combL p w a rows).getD k 0 + (combL p w b rows).getD k 0) % p := by
      simp [addL, addN, List.getD_eq_getElem?_getD, combL_len, hk]
    rw [hg, combL, combL, combL, combN_sum hk, combN_sum hk, combN_sum hk, sumN_add hl (by omega), ← Int.add_emod]
theorem sumN_set {c : List Int} {rows : List (List Int)} {k i : Nat} (hi : i < c.length) : ∀ {n : Nat}, sumN c rows k n = sumN (c.set i 0) rows k n + (if i < n then c.getD i 0 * (rows.getD i []).getD k 0 else 0)
  | 0 => by simp [sumN]
  | n + 1 => by
    have ih := sumN_set (rows := rows) (k := k) hi (n := n)
    simp only [sumN]
    rw [ih, getD_set]
    by_cases h1 : i = n
    · subst h1
      rw [if_neg (by omega), if_pos ⟨rfl, hi⟩, if_pos (by omega)]
      simp
    · by_cases h2 : i < n
      · rw [if_pos h2, if_neg (by simp [h1]), if_pos (by omega)]; omega
      · rw [if_neg h2, if_neg (by simp [h1]), if_neg (by omega)]; omega
/-- A row comes back. -/
theorem recovers {p : Int} {w : Nat} {c : List Int} {rows : List (List Int)} {i : Nat} (hf : fieldB p = true) (hr : RowsOK p w rows) (hl : c.length = rows.length) (hc : c.all (inE p) = true) (hi : i < rows.length) (h0 : c.getD i 0 ≠ 0) :
    recL p (combL p w c rows) (combL p w (c.set i 0) rows) (invI p (c.getD i 0)) = rows.getD i [] := by
  have hm := hr _ (mem_getD [] rows i hi)
  have hp := fieldB_iff.1 hf
  apply list_ext
  · rw [recL, fillN_len, combL_len, hm.1]; simp
  · intro k hk
    rw [recL, fillN_len, combL_len] at hk
    rw [recL, fillN_get (by rw [combL_len]; exact hk), if_pos (by rw [combL_len]; exact hk), recE, combL, combL, combN_sum hk, combN_sum hk, sumN_set (i := i) (by omega), if_pos hi]
    have hx := all_getD hc (i := i) (by omega)
    have hb := all_getD hm.2 (i := k) (by rw [hm.1]; omega)
    have hinv := invI_mul hf (a := c.getD i 0) (by omega)
    generalize c.getD i 0 = x at *
    generalize (rows.getD i []).getD k 0 = r at *
    generalize sumN (c.set i 0) rows k rows.length = s
    have e1 : ((s + x * r) % p - s % p + p) % p = (x * r) % p := by
      rw [Int.add_emod_right, Int.emod_sub_emod, Int.sub_emod_emod]
      congr 1; omega
    rw [e1, emod_mulL, Int.mul_comm x r, Int.mul_assoc, Int.mul_emod, hinv, Int.mul_one, Int.emod_emod, Int.emod_eq_of_lt hb.1 hb.2]
end Go.Proofs.Ytilkjcobkdjlkaa.Sim
