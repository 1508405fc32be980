/- Tables by the reference. -/
import Derived.Test.YtilkjcobkdjlkaaPkC
section
namespace Go.Proofs.Ytilkjcobkdjlkaa.Sim
open Go
set_option linter.unusedVariables false
/-- Sets in order, one behind the other; the second ones win. -/
def mergeF (count : Int) : List PSet → List PSet → List PSet
  | [], bs => bs
  | x :: xs, [] => if x.idx < count then x :: mergeF count xs [] else mergeF count xs []
  | x :: xs, y :: bs => if x.idx < y.idx then (if x.idx < count then x :: mergeF count xs (y :: bs) else mergeF count xs (y :: bs)) else if x.idx = y.idx then y :: mergeF count xs bs else y :: mergeF count (x :: xs) bs
termination_by a b => a.length + b.length
theorem formGo_mono {count : Int} : ∀ {l : List PSet} {a b : Int}, a ≤ b → formGo count b l = true → formGo count a l = true
  | [], _, _, _, _ => rfl
  | s :: r, a, b, hab, h => by
    obtain ⟨h1, h2, h3⟩ := formGo_cons.1 h
    exact formGo_cons.2 ⟨by omega, h2, h3⟩
theorem mergeF_form {c1 count : Int} : ∀ {xs bs : List PSet} {last : Int}, formGo c1 last xs = true → formGo count last bs = true → formGo count last (mergeF count xs bs) = true
  | [], bs, last, _, h => by rw [mergeF]; exact h
  | x :: xs, [], last, h, _ => by
    obtain ⟨h1, h2, h3⟩ := formGo_cons.1 h
    rw [mergeF]
    split
    · rename_i hx
      exact formGo_cons.2 ⟨h1, hx, mergeF_form h3 rfl⟩
    · exact mergeF_form (formGo_mono (by omega) h3) rfl
  | x :: xs, y :: bs, last, h, k => by
    obtain ⟨h1, h2, h3⟩ := formGo_cons.1 h
    obtain ⟨k1, k2, k3⟩ := formGo_cons.1 k
    rw [mergeF]
    split
    · rename_i hx
      rw [if_pos (by omega)]
      exact formGo_cons.2 ⟨h1, by omega, mergeF_form h3 (formGo_cons.2 ⟨hx, k2, k3⟩)⟩
    · split
      · rename_i hx he
        exact formGo_cons.2 ⟨k1, k2, mergeF_form (he ▸ h3) k3⟩
      · exact formGo_cons.2 ⟨k1, k2, mergeF_form (formGo_cons.2 ⟨by omega, h2, h3⟩) k3⟩
termination_by xs bs => xs.length + bs.length
theorem findF_low {count last : Int} {l : List PSet} (h : formGo count last l = true) {i : Int} (hi : i ≤ last) : findF i l = none :=
  findF_none fun s hs => by have := formGo_in h s hs; omega
theorem findF_high {count last : Int} {l : List PSet} (h : formGo count last l = true) {i : Int} (hi : count ≤ i) : findF i l = none :=
  findF_none fun s hs => by have := formGo_in h s hs; omega
theorem mergeF_find {c1 count : Int} (i : Int) (hi : i < count) : ∀ {xs bs : List PSet} {last : Int}, formGo c1 last xs = true → formGo count last bs = true → findF i (mergeF count xs bs) = (findF i bs).or (findF i xs)
  | [], bs, last, _, h => by rw [mergeF]; simp [findF]
  | x :: xs, [], last, h, _ => by
    obtain ⟨h1, h2, h3⟩ := formGo_cons.1 h
    have ih := mergeF_find i hi (bs := []) h3 rfl
    rw [mergeF]
    split
    · simp only [findF, ih, Option.none_or]
    · rename_i hx
      rw [ih]
      simp only [findF, Option.none_or]
      rw [if_neg (by omega)]
  | x :: xs, y :: bs, last, h, k => by
    obtain ⟨h1, h2, h3⟩ := formGo_cons.1 h
    obtain ⟨k1, k2, k3⟩ := formGo_cons.1 k
    rw [mergeF]
    split
    · rename_i hx
      rw [if_pos (by omega), findF, mergeF_find i hi h3 (formGo_cons.2 ⟨hx, k2, k3⟩)]
      by_cases he : x.idx = i
      · rw [if_pos he, findF_low (formGo_cons.2 ⟨hx, k2, k3⟩) (by omega), Option.none_or, findF, if_pos he]
      · rw [if_neg he]; congr 1; rw [findF, if_neg he]
    · split
      · rename_i hx he
        rw [findF, mergeF_find i hi (he ▸ h3) k3, findF, findF]
        by_cases hy : y.idx = i
        · rw [if_pos hy, if_pos hy]; rfl
        · rw [if_neg hy, if_neg hy, if_neg (by omega)]
      · rename_i hx he
        rw [findF, mergeF_find i hi (formGo_cons.2 ⟨by omega, h2, h3⟩ : formGo c1 y.idx (x :: xs) = true) k3]
        by_cases hy : y.idx = i
        · rw [if_pos hy, findF, if_pos hy]; rfl
        · rw [if_neg hy]; congr 1; rw [findF, if_neg hy]
termination_by xs bs => xs.length + bs.length
theorem findF_cons_ne {i : Int} {s : PSet} {r : List PSet} (h : s.idx ≠ i) : findF i (s :: r) = findF i r := by rw [findF, if_neg h]
theorem findF_cons_eq {s : PSet} {r : List PSet} : findF s.idx (s :: r) = some s.row := by rw [findF, if_pos rfl]
/-- Sets in order are those that are found. -/
theorem formGo_ext {count : Int} : ∀ {l l' : List PSet} {last : Int}, formGo count last l = true → formGo count last l' = true → (∀ i, last < i → i < count → findF i l = findF i l') → l = l'
  | [], [], _, _, _, _ => rfl
  | [], y :: l', last, _, h, hf => by
    obtain ⟨h1, h2, h3⟩ := formGo_cons.1 h
    have := hf y.idx h1 h2
    rw [findF_cons_eq] at this
    cases this
  | x :: l, [], last, h, _, hf => by
    obtain ⟨h1, h2, h3⟩ := formGo_cons.1 h
    have := hf x.idx h1 h2
    rw [findF_cons_eq] at this
    cases this
  | x :: l, y :: l', last, h, k, hf => by
    obtain ⟨h1, h2, h3⟩ := formGo_cons.1 h
    obtain ⟨k1, k2, k3⟩ := formGo_cons.1 k
    have he : x.idx = y.idx := by
      rcases Int.lt_trichotomy x.idx y.idx with hl | hl | hl
      · have := hf x.idx h1 h2
        rw [findF_cons_eq, findF_low (formGo_cons.2 ⟨hl, k2, k3⟩) (by omega)] at this
        cases this
      · exact hl
      · have := hf y.idx k1 k2
        rw [findF_cons_eq, findF_low (formGo_cons.2 ⟨hl, h2, h3⟩) (by omega)] at this
        cases this
    have hr := hf x.idx h1 h2
    rw [findF_cons_eq] at hr
    rw [he, findF_cons_eq] at hr
    have hxy : x = y := by
      cases x; cases y
      simp only [PSet.mk.injEq]
      simp only at he
      refine ⟨he, by simpa using hr⟩
    subst hxy
    rw [formGo_ext h3 k3 fun i hi hc => by
      have := hf i (by omega) hc
      rwa [findF_cons_ne (by omega), findF_cons_ne (by omega)] at this]
/-- What is found, from an index on. -/
def pickF (g : Int → Option (List Int)) : Nat → Int → List PSet
  | 0, _ => []
  | n + 1, i => match g i with
    | some r => ⟨i, r⟩ :: pickF g n (i + 1)
    | none => pickF g n (i + 1)
theorem pickF_form {g : Int → Option (List Int)} {count : Int} : ∀ {n : Nat} {i last : Int}, last < i → i + n ≤ count → formGo count last (pickF g n i) = true
  | 0, i, last, _, _ => rfl
  | n + 1, i, last, h, hc => by
    rw [pickF]
    split
    · exact formGo_cons.2 ⟨h, by simp only; omega, pickF_form (by simp only; omega) (by omega)⟩
    · exact pickF_form (by omega) (by omega)
theorem pickF_find {g : Int → Option (List Int)} {j : Int} : ∀ {n : Nat} {i : Int}, i ≤ j → j < i + n → findF j (pickF g n i) = g j
  | 0, i, h, hc => by omega
  | n + 1, i, h, hc => by
    rw [pickF]
    by_cases e : i = j
    · subst e
      split
      · rename_i r hr; rw [findF, if_pos rfl]; exact hr.symm
      · rename_i hr
        rw [hr]
        exact findF_low (pickF_form (count := i + 1 + n) (last := i) (by omega) (by omega)) (by omega)
    · split
      · rw [findF, if_neg e]; exact pickF_find (by omega) (by omega)
      · exact pickF_find (by omega) (by omega)
theorem mergeF_pick {c1 count : Int} {xs bs : List PSet} (h : formGo c1 (-1) xs = true) (k : formGo count (-1) bs = true) (h0 : 0 ≤ count) : mergeF count xs bs = pickF (fun i => (findF i bs).or (findF i xs)) count.toNat 0 :=
  formGo_ext (mergeF_form h k) (pickF_form (by omega) (by omega)) fun i h1 h2 => by rw [mergeF_find i h2 h k, pickF_find (by omega) (by omega)]
theorem pickF_succ {g : Int → Option (List Int)} : ∀ {n : Nat} {i : Int}, pickF g (n + 1) i = pickF g n i ++ (match g (i + n) with | some r => [⟨i + n, r⟩] | none => [])
  | 0, i => by
    rw [show i + ((0 : Nat) : Int) = i by omega, pickF, pickF]
    cases g i <;> simp [pickF]
  | n + 1, i => by
    rw [pickF, pickF_succ (n := n) (i := i + 1), show i + 1 + (n : Int) = i + ((n + 1 : Nat) : Int) by omega, pickF]
    cases g i <;> rfl
end Go.Proofs.Ytilkjcobkdjlkaa.Sim
end
section
namespace Go.Proofs.Ytilkjcobkdjlkaa.Sim
open Go
set_option maxRecDepth 100000
set_option maxHeartbeats 4000000
set_option linter.unusedVariables false
set_option linter.unusedSimpArgs false
attribute [local irreducible] Go Mean
def joinF (a b : PChg) : PChg × Int := if formF a = false ∨ formF b = false then (noChg, 2) else if a.tt ≠ b.fr then (noChg, 17) else (⟨a.fr, b.tt, b.count, mergeF b.count a.sets b.sets⟩, 0)
theorem formF_len {c : PChg} (h : formF c = true) : c.sets.length ≤ 1024 := by
  obtain ⟨_, _, _, h0, h1, h2⟩ := formF_ok h
  by_cases hc : (-1 : Int) < c.count
  · have := formGo_len h2 hc
    omega
  · omega
theorem mergeF_step1 {count : Int} {x : PSet} {xs bs : List PSet} (h : ∀ y r, bs = y :: r → x.idx < y.idx) : mergeF count (x :: xs) bs = if x.idx < count then x :: mergeF count xs bs else mergeF count xs bs := by
  cases bs with
  | nil => rw [mergeF]
  | cons y r => rw [mergeF, if_pos (h y r rfl)]
theorem mergeF_step2 {count : Int} {x y : PSet} {xs bs : List PSet} (h : ¬x.idx < y.idx) : mergeF count (x :: xs) (y :: bs) = if x.idx = y.idx then y :: mergeF count xs bs else y :: mergeF count (x :: xs) bs := by
  rw [mergeF, if_neg h]
theorem mergeF_nil {count : Int} {bs : List PSet} : mergeF count [] bs = bs := by rw [mergeF]
/-- Whose digests are known. -/
def knownB (n : Nat) (c : PChg) : Bool := decide ((behindF n c.sets : Int) = max 0 (c.count - n))
def digL (l : List Int) (c : PChg) : List Int := (List.range c.count.toNat).map fun (i : Nat) => match findF i c.sets with
  | some r => rowF r
  | none => l.getD i 0
def digsF (l : List Int) (c : PChg) : List Int × Int := if formF c = true ∧ l.length ≤ 1024 ∧ knownB l.length c = true then (digL l c, 0) else ([], 2)
abbrev vL (x : List Int × Int) : V := .tu [.og 1000000 0, I x.2]
abbrev oL (x : List Int × Int) : O := .arr 0 1 true (x.1.map eI)
def setDig : List Int → List PSet → List Int
  | cur, [] => cur
  | cur, s :: r => setDig (cur.set s.idx.toNat (rowF s.row)) r
theorem setDig_len : ∀ {l : List PSet} {cur : List Int}, (setDig cur l).length = cur.length
  | [], _ => rfl
  | s :: r, cur => by rw [setDig, setDig_len, List.length_set]
theorem setDig_get {count : Int} : ∀ {l : List PSet} {last : Int} {cur : List Int}, formGo count last l = true → -1 ≤ last → count ≤ cur.length → ∀ i : Nat, (setDig cur l).getD i 0 = (match findF i l with
      | some r => rowF r
      | none => cur.getD i 0)
  | [], _, _, _, _, _, _ => rfl
  | s :: r, last, cur, h, h0, hc, i => by
    obtain ⟨h1, h2, h3⟩ := formGo_cons.1 h
    have hin := formGo_in h3
    rw [setDig, setDig_get h3 (by omega) (by simpa using hc) i, findF, getD_set]
    by_cases he : s.idx = (i : Int)
    · rw [if_pos he, if_pos (by omega), findF_none fun t ht => by have := hin t ht; omega]
    · rw [if_neg he, if_neg (by omega)]
theorem digL_len {l : List Int} {c : PChg} : (digL l c).length = c.count.toNat := by simp [digL]
theorem digL_get {l : List Int} {c : PChg} {i : Nat} (h : i < c.count.toNat) : (digL l c).getD i 0 = match findF i c.sets with
  | some r => rowF r
  | none => l.getD i 0 := by
  simp [digL, List.getD_eq_getElem?_getD, h]
theorem setDig_apply {l : List Int} {c : PChg} (h : formGo c.count (-1) c.sets = true) (h0 : 0 ≤ c.count) (cur : List Int) (hl : cur.length = c.count.toNat) (hg : ∀ i, i < c.count.toNat → cur.getD i 0 = l.getD i 0) : setDig cur c.sets = digL l c := by
  apply (eq_iff_get 0 _ _ (by rw [setDig_len, digL_len, hl])).2
  intro k hk
  rw [setDig_len, hl] at hk
  rw [setDig_get h (by omega) (by omega) k, digL_get hk, hg k hk]
end Go.Proofs.Ytilkjcobkdjlkaa.Sim
end
section
namespace Go.Proofs.Ytilkjcobkdjlkaa.Sim
open Go
set_option maxRecDepth 100000
set_option maxHeartbeats 4000000
set_option linter.unusedVariables false
set_option linter.unusedSimpArgs false
attribute [local irreducible] Go Mean
theorem knownB_iff {n : Nat} {c : PChg} (h : formF c = true) : knownB n c = true ↔ ∀ i : Nat, n ≤ i → i < c.count.toNat → (findF i c.sets).isSome = true := by
  obtain ⟨hf1, hf2, hf3, hf4, hf5, hf6⟩ := formF_ok h
  rw [knownB, decide_eq_true_eq, behind_all hf6]
  constructor
  · intro g i h1 h2; exact g i (by omega) (by omega)
  · intro g i h1 h2
    obtain ⟨j, rfl⟩ := Int.eq_ofNat_of_zero_le (show 0 ≤ i by omega)
    exact g j (by omega) (by omega)
theorem r15digests (l : List Int) (c : PChg) (hl : l.length ≤ 17592186044416) (hc : c.sets.length ≤ 17592186044416) (hd : ShortS c.sets) : Does Try.prog 37 [.d (dInts l), vChg c] [] (vL (digsF l c)) [] [oL (digsF l c)] := by
  refine go_ref15_Digests rfl BxOK.nil fun cx hm0 => go_in 5000 ?_
  unfold ac_ref15_Digests rs_ref15_Digests
  by_cases h1 : formF c = true
  case neg =>
    have h1 : formF c = false := by simpa using h1
    have hv : digsF l c = ([], 2) := by simp [digsF, h1]
    rw [hv]
    repeat' (first | simp (maxSteps := 9999999) only [↓GE, PL, PP, EE, QQ, seval, h1] | (simp (disch := omega) only [IntWalk.i64_in]) | (refine go_brD (fun h => ?_) (fun h => ?_)) | (refine go_gsD (by ((try simp only [EE, QQ, seval]) <;> rfl)) (fun h => ?_) (fun h => ?_)) | (refine go_br (fun h => ?_) (fun h => ?_)) | (refine go_gs (by ((try simp only [EE, QQ, seval]) <;> rfl)) (fun h => ?_) (fun h => ?_)) | (apply go_call 5000 (r15form c hc) rfl rfl; (· ((try simp only [CC, LL, NM, EE, QQ, seval]) <;> (first | rfl | ((repeat constructor); done)))); (· exact CallForm.plain rfl); (· ((try simp only [CC, LL, NM, EE, QQ, seval]) <;> (first | rfl | ((repeat constructor); done)))); (· ((try simp only [CC, LL, NM, EE, QQ, seval]) <;> (first | rfl | ((repeat constructor); done))))) | (with_reducible apply And.intro) | (with_reducible exact trivial) | omega | (simp only [List.length_map, List.length_cons, List.length_nil] at *; omega) | (show _ = true; first | rfl | kernel_rfl))
    all_goals ((first | apply ret_mk [none] | apply end_mk [none]); (· ((try simp only [CC, LL, EE, QQ, seval]) <;> rfl)); (· ((try simp only [CC, LL, EE, QQ, seval]) <;> repeat' (first | (with_reducible apply And.intro) | rfl | trivial | (exact ⟨_, rfl⟩) | (exact ⟨_, _, _, rfl⟩) | (simp [*, ]; done) | (simp [*, ]; omega) | (simp_all []; done) | (simp_all []; omega)))); all_goals (first | trivial | decide | ((try simp only [CC, LL, EE, QQ, seval]) <;> repeat' (first | (with_reducible apply And.intro) | (exact ⟨_, rfl, rfl, rfl⟩) | (exact ⟨_, _, _, rfl⟩) | (exact ⟨_, rfl⟩) | trivial | rfl | (simp; done)))))
  by_cases h2 : l.length ≤ 1024
  case neg =>
    have hv : digsF l c = ([], 2) := by simp [digsF, h1, h2]
    rw [hv]
    have q : decide ((l.length : Int) > 1024) = true := by simp; omega
    repeat' (first | simp (maxSteps := 9999999) only [↓GE, PL, PP, EE, QQ, seval, h1, q, List.length_map] | (simp (disch := omega) only [IntWalk.i64_in]) | (refine go_brD (fun h => ?_) (fun h => ?_)) | (refine go_gsD (by ((try simp only [EE, QQ, seval]) <;> rfl)) (fun h => ?_) (fun h => ?_)) | (refine go_br (fun h => ?_) (fun h => ?_)) | (refine go_gs (by ((try simp only [EE, QQ, seval]) <;> rfl)) (fun h => ?_) (fun h => ?_)) | (apply go_call 5000 (r15form c hc) rfl rfl; (· ((try simp only [CC, LL, NM, EE, QQ, seval]) <;> (first | rfl | ((repeat constructor); done)))); (· exact CallForm.plain rfl); (· ((try simp only [CC, LL, NM, EE, QQ, seval]) <;> (first | rfl | ((repeat constructor); done)))); (· ((try simp only [CC, LL, NM, EE, QQ, seval]) <;> (first | rfl | ((repeat constructor); done))))) | (with_reducible apply And.intro) | (with_reducible exact trivial) | omega | (simp only [List.length_map, List.length_cons, List.length_nil] at *; omega) | (show _ = true; first | rfl | kernel_rfl))
    all_goals ((first | apply ret_mk [none] | apply end_mk [none]); (· ((try simp only [CC, LL, EE, QQ, seval]) <;> rfl)); (· ((try simp only [CC, LL, EE, QQ, seval]) <;> repeat' (first | (with_reducible apply And.intro) | rfl | trivial | (exact ⟨_, rfl⟩) | (exact ⟨_, _, _, rfl⟩) | (simp [*, ]; done) | (simp [*, ]; omega) | (simp_all []; done) | (simp_all []; omega)))); all_goals (first | trivial | decide | ((try simp only [CC, LL, EE, QQ, seval]) <;> repeat' (first | (with_reducible apply And.intro) | (exact ⟨_, rfl, rfl, rfl⟩) | (exact ⟨_, _, _, rfl⟩) | (exact ⟨_, rfl⟩) | trivial | rfl | (simp; done)))))
  have q : decide ((l.length : Int) > 1024) = false := by simp; omega
  obtain ⟨hf1, hf2, hf3, hf4, hf5, hf6⟩ := formF_ok h1
  have hlen := formF_len h1
  have hkn := knownB_iff (n := l.length) h1
  repeat' (first | simp (maxSteps := 9999999) only [↓GE, PL, PP, EE, QQ, seval, h1, q, List.length_map] | (simp (disch := omega) only [IntWalk.i64_in]) | (refine go_brD (fun h => ?_) (fun h => ?_)) | (refine go_gsD (by ((try simp only [EE, QQ, seval]) <;> rfl)) (fun h => ?_) (fun h => ?_)) | (refine go_br (fun h => ?_) (fun h => ?_)) | (refine go_gs (by ((try simp only [EE, QQ, seval]) <;> rfl)) (fun h => ?_) (fun h => ?_)) | (apply go_call 5000 (r15form c hc) rfl rfl; (· ((try simp only [CC, LL, NM, EE, QQ, seval]) <;> (first | rfl | ((repeat constructor); done)))); (· exact CallForm.plain rfl); (· ((try simp only [CC, LL, NM, EE, QQ, seval]) <;> (first | rfl | ((repeat constructor); done)))); (· ((try simp only [CC, LL, NM, EE, QQ, seval]) <;> (first | rfl | ((repeat constructor); done))))) | (with_reducible apply And.intro) | (with_reducible exact trivial) | omega | (simp only [List.length_map, List.length_cons, List.length_nil] at *; omega) | (show _ = true; first | rfl | kernel_rfl))
  refine go_loop 5000 hm0 (ι := {p : Nat × Nat // p.1 ≤ c.count.toNat ∧ ∀ i : Nat, l.length ≤ i → i < p.1 → (findF i c.sets).isSome = true}) (fun i => [(0, .d (dInts l)), (3, .bp 3 0 0), (6, .og 35 i.1.2), (7, I i.1.1)]) (fun i => [(3, .box 0 [I c.fr, I c.tt, I c.count, .d (dSets c.sets)]), (35, .arr i.1.2 1 true (((List.range i.1.1).map fun (i : Nat) => match findF i c.sets with
    | some r => rowF r
    | none => l.getD i 0).map eI))]) (fun i => c.count.toNat - i.1.1) [35] ⟨(0, 0), by simp⟩ ?_ ?_
  · (simp only [GeS]; refine ⟨?_, ?_, ?_, ?_⟩; all_goals (repeat' (first | trivial | (with_reducible rfl) | simp only [CC, LL, EE, QQ, seval] | (with_reducible apply And.intro) | rfl | (refine ⟨_, rfl, ?_⟩) | (simp; done) | omega)))
  · rintro ⟨⟨k, v⟩, hk, hall⟩
    simp only at hk hall
    by_cases hkn2 : k < c.count.toNat
    · cases hfk : findF k c.sets with
      | some r =>
        have hr : r.length ≤ 17592186044416 := by
          obtain ⟨s, hs1, hs2⟩ := findF_mem hfk
          rw [← hs2]; exact hd s hs1
        repeat' (first | simp (maxSteps := 9999999) only [↓GE, PL, PP, EE, QQ, seval, hfk, Option.getD_some, Option.isSome_some, eI, List.length_map, List.length_range] | (simp (disch := omega) only [IntWalk.i64_in]) | (refine go_brD (fun h => ?_) (fun h => ?_)) | (refine go_gsD (by ((try simp only [EE, QQ, seval]) <;> rfl)) (fun h => ?_) (fun h => ?_)) | (refine go_br (fun h => ?_) (fun h => ?_)) | (refine go_gs (by ((try simp only [EE, QQ, seval]) <;> rfl)) (fun h => ?_) (fun h => ?_)) | (apply go_call 5000 (r15find c k hc) rfl rfl; (· ((try simp only [CC, LL, NM, EE, QQ, seval]) <;> (first | rfl | ((repeat constructor); done)))); (· exact CallForm.plain rfl); (· ((try simp only [CC, LL, NM, EE, QQ, seval]) <;> (first | rfl | ((repeat constructor); done)))); (· ((try simp only [CC, LL, NM, EE, QQ, seval]) <;> (first | rfl | ((repeat constructor); done))))) | (apply go_call 5000 (r11row r hr) rfl rfl; (· ((try simp only [CC, LL, NM, EE, QQ, seval]) <;> (first | rfl | ((repeat constructor); done)))); (· exact CallForm.plain rfl); (· ((try simp only [CC, LL, NM, EE, QQ, seval]) <;> (first | rfl | ((repeat constructor); done)))); (· ((try simp only [CC, LL, NM, EE, QQ, seval]) <;> (first | rfl | ((repeat constructor); done))))) | (with_reducible apply And.intro) | (with_reducible exact trivial) | omega | (simp only [List.length_map, List.length_cons, List.length_nil] at *; omega) | (show _ = true; first | rfl | kernel_rfl))
        refine ⟨⟨(k + 1, v + 1), hkn2, fun i h1 h2 => by
          simp only at h2
          by_cases e : i = k
          · subst e; rw [hfk]; rfl
          · exact hall i h1 (by omega)⟩, ?_, by simp only; omega⟩
        (simp only [GeS]; refine ⟨?_, ?_, ?_, ?_⟩; all_goals (repeat' (first | trivial | (with_reducible rfl) | simp only [CC, LL, EE, QQ, seval] | (with_reducible apply And.intro) | rfl | (refine ⟨_, rfl, ?_⟩) | (simp [List.range_succ, hfk, eI]; done) | omega)))
      | none =>
        by_cases hkl : k < l.length
        · have hs1 := getD_map eI [] 0 l k hkl
          have q4 : decide ((k : Int) < (l.length : Int)) = true := by simpa using hkl
          repeat' (first | simp (maxSteps := 9999999) only [↓GE, PL, PP, EE, QQ, seval, hfk, hs1, q4, Option.getD_none, Option.isSome_none, eI, List.length_map, List.length_range] | (simp (disch := omega) only [IntWalk.i64_in]) | (refine go_brD (fun h => ?_) (fun h => ?_)) | (refine go_gsD (by ((try simp only [EE, QQ, seval]) <;> rfl)) (fun h => ?_) (fun h => ?_)) | (refine go_br (fun h => ?_) (fun h => ?_)) | (refine go_gs (by ((try simp only [EE, QQ, seval]) <;> rfl)) (fun h => ?_) (fun h => ?_)) | (apply go_call 5000 (r15find c k hc) rfl rfl; (· ((try simp only [CC, LL, NM, EE, QQ, seval]) <;> (first | rfl | ((repeat constructor); done)))); (· exact CallForm.plain rfl); (· ((try simp only [CC, LL, NM, EE, QQ, seval]) <;> (first | rfl | ((repeat constructor); done)))); (· ((try simp only [CC, LL, NM, EE, QQ, seval]) <;> (first | rfl | ((repeat constructor); done))))) | (with_reducible apply And.intro) | (with_reducible exact trivial) | omega | (simp only [List.length_map, List.length_cons, List.length_nil] at *; omega) | (show _ = true; first | rfl | kernel_rfl))
          refine ⟨⟨(k + 1, v + 1), hkn2, fun i h1 h2 => hall i h1 (by simp only at h2; omega)⟩, ?_, by simp only; omega⟩
          (simp only [GeS]; refine ⟨?_, ?_, ?_, ?_⟩; all_goals (repeat' (first | trivial | (with_reducible rfl) | simp only [CC, LL, EE, QQ, seval] | (with_reducible apply And.intro) | rfl | (refine ⟨_, rfl, ?_⟩) | (simp [List.range_succ, hfk, eI]; done) | omega)))
        · have hno : digsF l c = ([], 2) := by
            have : ¬knownB l.length c = true := fun h => by
              have := hkn.1 h k (by omega) hkn2
              rw [hfk] at this
              cases this
            simp [digsF, this]
          rw [hno]
          have q4 : decide ((k : Int) < (l.length : Int)) = false := by simpa using hkl
          repeat' (first | simp (maxSteps := 9999999) only [↓GE, PL, PP, EE, QQ, seval, hfk, q4, Option.getD_none, Option.isSome_none, eI, List.length_map, List.length_range] | (simp (disch := omega) only [IntWalk.i64_in]) | (refine go_brD (fun h => ?_) (fun h => ?_)) | (refine go_gsD (by ((try simp only [EE, QQ, seval]) <;> rfl)) (fun h => ?_) (fun h => ?_)) | (refine go_br (fun h => ?_) (fun h => ?_)) | (refine go_gs (by ((try simp only [EE, QQ, seval]) <;> rfl)) (fun h => ?_) (fun h => ?_)) | (apply go_call 5000 (r15find c k hc) rfl rfl; (· ((try simp only [CC, LL, NM, EE, QQ, seval]) <;> (first | rfl | ((repeat constructor); done)))); (· exact CallForm.plain rfl); (· ((try simp only [CC, LL, NM, EE, QQ, seval]) <;> (first | rfl | ((repeat constructor); done)))); (· ((try simp only [CC, LL, NM, EE, QQ, seval]) <;> (first | rfl | ((repeat constructor); done))))) | (with_reducible apply And.intro) | (with_reducible exact trivial) | omega | (simp only [List.length_map, List.length_cons, List.length_nil] at *; omega) | (show _ = true; first | rfl | kernel_rfl))
          all_goals ((first | apply ret_mk [none] | apply end_mk [none]); (· ((try simp only [CC, LL, EE, QQ, seval]) <;> rfl)); (· ((try simp only [CC, LL, EE, QQ, seval]) <;> repeat' (first | (with_reducible apply And.intro) | rfl | trivial | (exact ⟨_, rfl⟩) | (exact ⟨_, _, _, rfl⟩) | (simp [*, ]; done) | (simp [*, ]; omega) | (simp_all []; done) | (simp_all []; omega)))); all_goals (first | trivial | decide | ((try simp only [CC, LL, EE, QQ, seval]) <;> repeat' (first | (with_reducible apply And.intro) | (exact ⟨_, rfl, rfl, rfl⟩) | (exact ⟨_, _, _, rfl⟩) | (exact ⟨_, rfl⟩) | trivial | rfl | (simp; done)))))
    · have : k = c.count.toNat := by omega
      subst this
      have hv : digsF l c = (digL l c, 0) := by simp [digsF, h1, h2, hkn.2 (fun i a b => hall i a b)]
      rw [hv]
      repeat' (first | simp (maxSteps := 9999999) only [↓GE, PL, PP, EE, QQ, seval] | (simp (disch := omega) only [IntWalk.i64_in]) | (refine go_brD (fun h => ?_) (fun h => ?_)) | (refine go_gsD (by ((try simp only [EE, QQ, seval]) <;> rfl)) (fun h => ?_) (fun h => ?_)) | (refine go_br (fun h => ?_) (fun h => ?_)) | (refine go_gs (by ((try simp only [EE, QQ, seval]) <;> rfl)) (fun h => ?_) (fun h => ?_)) | (with_reducible apply And.intro) | (with_reducible exact trivial) | omega | (simp only [List.length_map, List.length_cons, List.length_nil] at *; omega) | (show _ = true; first | rfl | kernel_rfl))
      all_goals ((first | apply ret_mk [some 35] | apply end_mk [some 35]); (· ((try simp only [CC, LL, EE, QQ, seval]) <;> rfl)); (· ((try simp only [CC, LL, EE, QQ, seval]) <;> repeat' (first | (with_reducible apply And.intro) | rfl | trivial | (exact ⟨_, rfl⟩) | (exact ⟨_, _, _, rfl⟩) | (simp [*, digL]; done) | (simp [*, digL]; omega) | (simp_all [digL]; done) | (simp_all [digL]; omega)))); all_goals (first | trivial | decide | ((try simp only [CC, LL, EE, QQ, seval]) <;> repeat' (first | (with_reducible apply And.intro) | (exact ⟨_, rfl, rfl, rfl⟩) | (exact ⟨_, _, _, rfl⟩) | (exact ⟨_, rfl⟩) | trivial | rfl | (simp; done)))))
end Go.Proofs.Ytilkjcobkdjlkaa.Sim
end
section
namespace Go.Proofs.Ytilkjcobkdjlkaa.Sim
open Go
set_option maxRecDepth 100000
set_option maxHeartbeats 4000000
set_option linter.unusedVariables false
set_option linter.unusedSimpArgs false
attribute [local irreducible] Go Mean
noncomputable def newF (t : PTab) : PTab × Int := if checkT t ≠ 0 then (noTab, checkT t) else (t, 0)
noncomputable def r14digF (t : PTab) : List Int × Int := if checkT t ≠ 0 then ([], checkT t) else (t.rows.map rowF, 0)
theorem r14digests (t : PTab) (hl : t.rows.length ≤ 17592186044416) (hs : Short t.rows) : Does Try.prog 36 [vTab t] [] (.tu [.og 1000000 0, I (r14digF t).2]) [] [.arr 0 1 true ((r14digF t).1.map eI)] := by
  refine go_ref14_Digests rfl BxOK.nil fun cx hm0 => go_in 5000 ?_
  unfold ac_ref14_Digests rs_ref14_Digests
  by_cases h1 : checkT t = 0
  case neg =>
    have hv : r14digF t = ([], checkT t) := by simp [r14digF, h1]
    rw [hv]
    have h1' : (checkT t != 0) = true := by simpa using h1
    repeat' (first | simp (maxSteps := 9999999) only [↓GE, PL, PP, EE, QQ, seval, h1'] | (simp (disch := omega) only [IntWalk.i64_in]) | (refine go_brD (fun h => ?_) (fun h => ?_)) | (refine go_gsD (by ((try simp only [EE, QQ, seval]) <;> rfl)) (fun h => ?_) (fun h => ?_)) | (refine go_br (fun h => ?_) (fun h => ?_)) | (refine go_gs (by ((try simp only [EE, QQ, seval]) <;> rfl)) (fun h => ?_) (fun h => ?_)) | (apply go_call 5000 (r14check t hl hs) rfl rfl; (· ((try simp only [CC, LL, NM, EE, QQ, seval]) <;> (first | rfl | ((repeat constructor); done)))); (· exact CallForm.plain rfl); (· ((try simp only [CC, LL, NM, EE, QQ, seval]) <;> (first | rfl | ((repeat constructor); done)))); (· ((try simp only [CC, LL, NM, EE, QQ, seval]) <;> (first | rfl | ((repeat constructor); done))))) | (with_reducible apply And.intro) | (with_reducible exact trivial) | omega | (simp only [List.length_map, List.length_cons, List.length_nil] at *; omega) | (show _ = true; first | rfl | kernel_rfl))
    all_goals ((first | apply ret_mk [none] | apply end_mk [none]); (· ((try simp only [CC, LL, EE, QQ, seval]) <;> rfl)); (· ((try simp only [CC, LL, EE, QQ, seval]) <;> repeat' (first | (with_reducible apply And.intro) | rfl | trivial | (exact ⟨_, rfl⟩) | (exact ⟨_, _, _, rfl⟩) | (simp [*, ]; done) | (simp [*, ]; omega) | (simp_all []; done) | (simp_all []; omega)))); all_goals (first | trivial | decide | ((try simp only [CC, LL, EE, QQ, seval]) <;> repeat' (first | (with_reducible apply And.intro) | (exact ⟨_, rfl, rfl, rfl⟩) | (exact ⟨_, _, _, rfl⟩) | (exact ⟨_, rfl⟩) | trivial | rfl | (simp; done)))))
  have hv : r14digF t = (t.rows.map rowF, 0) := by simp [r14digF, h1]
  rw [hv]
  repeat' (first | simp (maxSteps := 9999999) only [↓GE, PL, PP, EE, QQ, seval, h1, List.length_map] | (simp (disch := omega) only [IntWalk.i64_in]) | (refine go_brD (fun h => ?_) (fun h => ?_)) | (refine go_gsD (by ((try simp only [EE, QQ, seval]) <;> rfl)) (fun h => ?_) (fun h => ?_)) | (refine go_br (fun h => ?_) (fun h => ?_)) | (refine go_gs (by ((try simp only [EE, QQ, seval]) <;> rfl)) (fun h => ?_) (fun h => ?_)) | (apply go_call 5000 (r14check t hl hs) rfl rfl; (· ((try simp only [CC, LL, NM, EE, QQ, seval]) <;> (first | rfl | ((repeat constructor); done)))); (· exact CallForm.plain rfl); (· ((try simp only [CC, LL, NM, EE, QQ, seval]) <;> (first | rfl | ((repeat constructor); done)))); (· ((try simp only [CC, LL, NM, EE, QQ, seval]) <;> (first | rfl | ((repeat constructor); done))))) | (with_reducible apply And.intro) | (with_reducible exact trivial) | omega | (simp only [List.length_map, List.length_cons, List.length_nil] at *; omega) | (show _ = true; first | rfl | kernel_rfl))
  refine go_loop 5000 hm0 (ι := {p : Nat × Nat // p.1 ≤ t.rows.length}) (fun i => [(5, .og 24 i.1.2), (14, .d (dRows t.rows)), (15, I t.rows.length), (16, I i.1.1)]) (fun i => [(24, .arr i.1.2 1 true (((t.rows.take i.1.1).map rowF).map eI))]) (fun i => t.rows.length - i.1.1) [24] ⟨(0, 0), by simp⟩ ?_ ?_
  · (simp only [GeS]; refine ⟨?_, ?_, ?_, ?_⟩; all_goals (repeat' (first | trivial | (with_reducible rfl) | simp only [CC, LL, EE, QQ, seval] | (with_reducible apply And.intro) | rfl | (refine ⟨_, rfl, ?_⟩) | (simp; done) | omega)))
  · rintro ⟨⟨j, v⟩, hj⟩
    simp only at hj
    have hlt : (t.rows.take j).length = j := by rw [List.length_take]; omega
    by_cases hjn : j < t.rows.length
    · have hs1 := getD_map eR [] [] t.rows j hjn
      have hr1 := hs _ (mem_getD [] t.rows j hjn)
      have ht := take_succ_getD ([] : List Int) t.rows j hjn
      generalize t.rows.getD j [] = r at hs1 hr1 ht
      repeat' (first | simp (maxSteps := 9999999) only [↓GE, PL, PP, EE, QQ, seval, hs1, hlt, eR, List.length_map] | (simp (disch := omega) only [IntWalk.i64_in]) | (refine go_brD (fun h => ?_) (fun h => ?_)) | (refine go_gsD (by ((try simp only [EE, QQ, seval]) <;> rfl)) (fun h => ?_) (fun h => ?_)) | (refine go_br (fun h => ?_) (fun h => ?_)) | (refine go_gs (by ((try simp only [EE, QQ, seval]) <;> rfl)) (fun h => ?_) (fun h => ?_)) | (apply go_call 5000 (r11row r hr1) rfl rfl; (· ((try simp only [CC, LL, NM, EE, QQ, seval]) <;> (first | rfl | ((repeat constructor); done)))); (· exact CallForm.plain rfl); (· ((try simp only [CC, LL, NM, EE, QQ, seval]) <;> (first | rfl | ((repeat constructor); done)))); (· ((try simp only [CC, LL, NM, EE, QQ, seval]) <;> (first | rfl | ((repeat constructor); done))))) | (with_reducible apply And.intro) | (with_reducible exact trivial) | omega | (simp only [List.length_map, List.length_cons, List.length_nil] at *; omega) | (show _ = true; first | rfl | kernel_rfl))
      refine ⟨⟨(j + 1, v + 1), hjn⟩, ?_, by simp only; omega⟩
      (simp only [GeS]; refine ⟨?_, ?_, ?_, ?_⟩; all_goals (repeat' (first | trivial | (with_reducible rfl) | simp only [CC, LL, EE, QQ, seval] | (with_reducible apply And.intro) | rfl | (refine ⟨_, rfl, ?_⟩) | (simp [ht, eI]; done) | omega)))
    · have : j = t.rows.length := by omega
      subst this
      repeat' (first | simp (maxSteps := 9999999) only [↓GE, PL, PP, EE, QQ, seval, List.take_length] | (simp (disch := omega) only [IntWalk.i64_in]) | (refine go_brD (fun h => ?_) (fun h => ?_)) | (refine go_gsD (by ((try simp only [EE, QQ, seval]) <;> rfl)) (fun h => ?_) (fun h => ?_)) | (refine go_br (fun h => ?_) (fun h => ?_)) | (refine go_gs (by ((try simp only [EE, QQ, seval]) <;> rfl)) (fun h => ?_) (fun h => ?_)) | (with_reducible apply And.intro) | (with_reducible exact trivial) | omega | (simp only [List.length_map, List.length_cons, List.length_nil] at *; omega) | (show _ = true; first | rfl | kernel_rfl))
      all_goals ((first | apply ret_mk [some 24] | apply end_mk [some 24]); (· ((try simp only [CC, LL, EE, QQ, seval]) <;> rfl)); (· ((try simp only [CC, LL, EE, QQ, seval]) <;> repeat' (first | (with_reducible apply And.intro) | rfl | trivial | (exact ⟨_, rfl⟩) | (exact ⟨_, _, _, rfl⟩) | (simp [*, ]; done) | (simp [*, ]; omega) | (simp_all []; done) | (simp_all []; omega)))); all_goals (first | trivial | decide | ((try simp only [CC, LL, EE, QQ, seval]) <;> repeat' (first | (with_reducible apply And.intro) | (exact ⟨_, rfl, rfl, rfl⟩) | (exact ⟨_, _, _, rfl⟩) | (exact ⟨_, rfl⟩) | trivial | rfl | (simp; done)))))
/-- What is wrong with digests, or 0. -/
def listErr (l : List Int) : Int := if l.length > 1024 then 4 else if l.all (fun x => decide (0 ≤ x) && decide (x < 2147483647)) then 0 else 1
theorem r12list (l : List Int) (hl : l.length ≤ 17592186044416) : Does Try.prog 106 [.d (dInts l)] [] (I (listErr l)) [] [] := by
  refine go_ref12_list rfl BxOK.nil fun cx hm0 => go_in 5000 ?_
  unfold ac_ref12_list rs_ref12_list
  by_cases h1 : l.length > 1024
  · have q : decide ((l.length : Int) > 1024) = true := by simp; omega
    have hv : listErr l = 4 := by simp [listErr]; omega
    rw [hv]
    repeat' (first | simp (maxSteps := 9999999) only [↓GE, PL, PP, EE, QQ, seval, q, List.length_map] | (simp (disch := omega) only [IntWalk.i64_in]) | (refine go_brD (fun h => ?_) (fun h => ?_)) | (refine go_gsD (by ((try simp only [EE, QQ, seval]) <;> rfl)) (fun h => ?_) (fun h => ?_)) | (refine go_br (fun h => ?_) (fun h => ?_)) | (refine go_gs (by ((try simp only [EE, QQ, seval]) <;> rfl)) (fun h => ?_) (fun h => ?_)) | (with_reducible apply And.intro) | (with_reducible exact trivial) | omega | (simp only [List.length_map, List.length_cons, List.length_nil] at *; omega) | (show _ = true; first | rfl | kernel_rfl))
    all_goals ((first | apply ret_mk [] | apply end_mk []); (· ((try simp only [CC, LL, EE, QQ, seval]) <;> rfl)); (· ((try simp only [CC, LL, EE, QQ, seval]) <;> repeat' (first | (with_reducible apply And.intro) | rfl | trivial | (exact ⟨_, rfl⟩) | (exact ⟨_, _, _, rfl⟩) | (simp [*, ]; done) | (simp [*, ]; omega) | (simp_all []; done) | (simp_all []; omega)))); all_goals (first | trivial | decide | ((try simp only [CC, LL, EE, QQ, seval]) <;> repeat' (first | (with_reducible apply And.intro) | (exact ⟨_, rfl, rfl, rfl⟩) | (exact ⟨_, _, _, rfl⟩) | (exact ⟨_, rfl⟩) | trivial | rfl | (simp; done)))))
  have q : decide ((l.length : Int) > 1024) = false := by simp; omega
  repeat' (first | simp (maxSteps := 9999999) only [↓GE, PL, PP, EE, QQ, seval, q, List.length_map] | (simp (disch := omega) only [IntWalk.i64_in]) | (refine go_brD (fun h => ?_) (fun h => ?_)) | (refine go_gsD (by ((try simp only [EE, QQ, seval]) <;> rfl)) (fun h => ?_) (fun h => ?_)) | (refine go_br (fun h => ?_) (fun h => ?_)) | (refine go_gs (by ((try simp only [EE, QQ, seval]) <;> rfl)) (fun h => ?_) (fun h => ?_)) | (with_reducible apply And.intro) | (with_reducible exact trivial) | omega | (simp only [List.length_map, List.length_cons, List.length_nil] at *; omega) | (show _ = true; first | rfl | kernel_rfl))
  refine go_loop 5000 hm0 (ι := {p : Nat // p ≤ l.length ∧ l.all (fun x => decide (0 ≤ x) && decide (x < 2147483647)) = (l.drop p).all (fun x => decide (0 ≤ x) && decide (x < 2147483647))}) (fun i => [(8, .d (dInts l)), (9, I l.length), (10, I i.1)]) (fun i => []) (fun i => l.length - i.1) [] ⟨0, by simp⟩ ?_ ?_
  · (simp only [GeS]; refine ⟨?_, ?_, ?_, ?_⟩; all_goals (repeat' (first | trivial | (with_reducible rfl) | simp only [CC, LL, EE, QQ, seval] | (with_reducible apply And.intro) | rfl | (refine ⟨_, rfl, ?_⟩) | (simp; done) | omega)))
  · rintro ⟨k, hk, hv⟩
    by_cases hkl : k < l.length
    · have hs1 := getD_map eI [] 0 l k hkl
      rw [drop_get 0 _ _ hkl, List.all_cons] at hv
      generalize l.getD k 0 = x at hs1 hv
      by_cases hx : 0 ≤ x ∧ x < 2147483647
      · rw [decide_eq_true hx.1, decide_eq_true hx.2] at hv
        have q1 : decide (x < 0) = false := by simp; omega
        have q2 : decide (x ≥ 2147483647) = false := by simp; omega
        repeat' (first | simp (maxSteps := 9999999) only [↓GE, PL, PP, EE, QQ, seval, hs1, q1, q2, eI, List.length_map] | (simp (disch := omega) only [IntWalk.i64_in]) | (refine go_brD (fun h => ?_) (fun h => ?_)) | (refine go_gsD (by ((try simp only [EE, QQ, seval]) <;> rfl)) (fun h => ?_) (fun h => ?_)) | (refine go_br (fun h => ?_) (fun h => ?_)) | (refine go_gs (by ((try simp only [EE, QQ, seval]) <;> rfl)) (fun h => ?_) (fun h => ?_)) | (with_reducible apply And.intro) | (with_reducible exact trivial) | omega | (simp only [List.length_map, List.length_cons, List.length_nil] at *; omega) | (show _ = true; first | rfl | kernel_rfl))
        refine ⟨⟨k + 1, hkl, by simpa using hv⟩, ?_, by simp only; omega⟩
        (simp only [GeS]; refine ⟨?_, ?_, ?_, ?_⟩; all_goals (repeat' (first | trivial | (with_reducible rfl) | simp only [CC, LL, EE, QQ, seval] | (with_reducible apply And.intro) | rfl | (refine ⟨_, rfl, ?_⟩) | (simp; done) | omega)))
      · have hne : listErr l = 1 := by
          rw [listErr, if_neg h1, if_neg]
          rw [hv]
          simp
          intro a b; exact absurd ⟨a, b⟩ hx
        rw [hne]
        by_cases hx2 : x < 0
        · have q1 : decide (x < 0) = true := by simpa using hx2
          repeat' (first | simp (maxSteps := 9999999) only [↓GE, PL, PP, EE, QQ, seval, hs1, q1, eI, List.length_map] | (simp (disch := omega) only [IntWalk.i64_in]) | (refine go_brD (fun h => ?_) (fun h => ?_)) | (refine go_gsD (by ((try simp only [EE, QQ, seval]) <;> rfl)) (fun h => ?_) (fun h => ?_)) | (refine go_br (fun h => ?_) (fun h => ?_)) | (refine go_gs (by ((try simp only [EE, QQ, seval]) <;> rfl)) (fun h => ?_) (fun h => ?_)) | (with_reducible apply And.intro) | (with_reducible exact trivial) | omega | (simp only [List.length_map, List.length_cons, List.length_nil] at *; omega) | (show _ = true; first | rfl | kernel_rfl))
          all_goals ((first | apply ret_mk [] | apply end_mk []); (· ((try simp only [CC, LL, EE, QQ, seval]) <;> rfl)); (· ((try simp only [CC, LL, EE, QQ, seval]) <;> repeat' (first | (with_reducible apply And.intro) | rfl | trivial | (exact ⟨_, rfl⟩) | (exact ⟨_, _, _, rfl⟩) | (simp [*, ]; done) | (simp [*, ]; omega) | (simp_all []; done) | (simp_all []; omega)))); all_goals (first | trivial | decide | ((try simp only [CC, LL, EE, QQ, seval]) <;> repeat' (first | (with_reducible apply And.intro) | (exact ⟨_, rfl, rfl, rfl⟩) | (exact ⟨_, _, _, rfl⟩) | (exact ⟨_, rfl⟩) | trivial | rfl | (simp; done)))))
        · have q1 : decide (x < 0) = false := by simpa using hx2
          have q2 : decide (x ≥ 2147483647) = true := by simp; omega
          repeat' (first | simp (maxSteps := 9999999) only [↓GE, PL, PP, EE, QQ, seval, hs1, q1, q2, eI, List.length_map] | (simp (disch := omega) only [IntWalk.i64_in]) | (refine go_brD (fun h => ?_) (fun h => ?_)) | (refine go_gsD (by ((try simp only [EE, QQ, seval]) <;> rfl)) (fun h => ?_) (fun h => ?_)) | (refine go_br (fun h => ?_) (fun h => ?_)) | (refine go_gs (by ((try simp only [EE, QQ, seval]) <;> rfl)) (fun h => ?_) (fun h => ?_)) | (with_reducible apply And.intro) | (with_reducible exact trivial) | omega | (simp only [List.length_map, List.length_cons, List.length_nil] at *; omega) | (show _ = true; first | rfl | kernel_rfl))
          all_goals ((first | apply ret_mk [] | apply end_mk []); (· ((try simp only [CC, LL, EE, QQ, seval]) <;> rfl)); (· ((try simp only [CC, LL, EE, QQ, seval]) <;> repeat' (first | (with_reducible apply And.intro) | rfl | trivial | (exact ⟨_, rfl⟩) | (exact ⟨_, _, _, rfl⟩) | (simp [*, ]; done) | (simp [*, ]; omega) | (simp_all []; done) | (simp_all []; omega)))); all_goals (first | trivial | decide | ((try simp only [CC, LL, EE, QQ, seval]) <;> repeat' (first | (with_reducible apply And.intro) | (exact ⟨_, rfl, rfl, rfl⟩) | (exact ⟨_, _, _, rfl⟩) | (exact ⟨_, rfl⟩) | trivial | rfl | (simp; done)))))
    · have : k = l.length := by omega
      subst this
      have hne : listErr l = 0 := by
        rw [listErr, if_neg h1, if_pos]
        rw [hv]; simp
      rw [hne]
      repeat' (first | simp (maxSteps := 9999999) only [↓GE, PL, PP, EE, QQ, seval] | (simp (disch := omega) only [IntWalk.i64_in]) | (refine go_brD (fun h => ?_) (fun h => ?_)) | (refine go_gsD (by ((try simp only [EE, QQ, seval]) <;> rfl)) (fun h => ?_) (fun h => ?_)) | (refine go_br (fun h => ?_) (fun h => ?_)) | (refine go_gs (by ((try simp only [EE, QQ, seval]) <;> rfl)) (fun h => ?_) (fun h => ?_)) | (with_reducible apply And.intro) | (with_reducible exact trivial) | omega | (simp only [List.length_map, List.length_cons, List.length_nil] at *; omega) | (show _ = true; first | rfl | kernel_rfl))
      all_goals ((first | apply ret_mk [] | apply end_mk []); (· ((try simp only [CC, LL, EE, QQ, seval]) <;> rfl)); (· ((try simp only [CC, LL, EE, QQ, seval]) <;> repeat' (first | (with_reducible apply And.intro) | rfl | trivial | (exact ⟨_, rfl⟩) | (exact ⟨_, _, _, rfl⟩) | (simp [*, ]; done) | (simp [*, ]; omega) | (simp_all []; done) | (simp_all []; omega)))); all_goals (first | trivial | decide | ((try simp only [CC, LL, EE, QQ, seval]) <;> repeat' (first | (with_reducible apply And.intro) | (exact ⟨_, rfl, rfl, rfl⟩) | (exact ⟨_, _, _, rfl⟩) | (exact ⟨_, rfl⟩) | trivial | rfl | (simp; done)))))
/-- The next level. -/
def upF : List Int → List Int
  | a :: b :: l => nodeF a b :: upF l
  | l => l
theorem upF_two {a b : Int} {l : List Int} : upF (a :: b :: l) = nodeF a b :: upF l := by rw [upF]
theorem upF_one {a : Int} : upF [a] = [a] := by rw [upF]; intro a b l h; cases h
theorem upF_nil : upF [] = [] := by rw [upF]; intro a b l h; cases h
theorem upF_len : ∀ {l : List Int}, (upF l).length = (l.length + 1) / 2
  | [] => by rw [upF_nil]; rfl
  | [a] => by rw [upF_one]; simp
  | a :: b :: l => by rw [upF_two, List.length_cons, upF_len]; simp only [List.length_cons]; omega
theorem r12up (l : List Int) (hl : l.length ≤ 17592186044416) : Does Try.prog 107 [.d (dInts l)] [] (.og 1000000 0) [] [.arr 0 1 true ((upF l).map eI)] := by
  refine go_ref12_up rfl BxOK.nil fun cx hm0 => go_in 5000 ?_
  unfold ac_ref12_up rs_ref12_up
  repeat' (first | simp (maxSteps := 9999999) only [↓GE, PL, PP, EE, QQ, seval] | (simp (disch := omega) only [IntWalk.i64_in]) | (refine go_brD (fun h => ?_) (fun h => ?_)) | (refine go_gsD (by ((try simp only [EE, QQ, seval]) <;> rfl)) (fun h => ?_) (fun h => ?_)) | (refine go_br (fun h => ?_) (fun h => ?_)) | (refine go_gs (by ((try simp only [EE, QQ, seval]) <;> rfl)) (fun h => ?_) (fun h => ?_)) | (with_reducible apply And.intro) | (with_reducible exact trivial) | omega | (simp only [List.length_map, List.length_cons, List.length_nil] at *; omega) | (show _ = true; first | rfl | kernel_rfl))
  refine go_loop 5000 hm0 (ι := {p : Nat × Nat × List Int // p.1 ≤ l.length + 1 ∧ p.2.2.length ≤ p.1 ∧ upF l = p.2.2 ++ upF (l.drop p.1)}) (fun i => [(0, .d (dInts l)), (3, .og 28 i.1.2.1), (4, I i.1.1)]) (fun i => [(28, .arr i.1.2.1 1 true (i.1.2.2.map eI))]) (fun i => l.length + 1 - i.1.1) [28] ⟨(0, 0, []), by simp⟩ ?_ ?_
  · (simp only [GeS]; refine ⟨?_, ?_, ?_, ?_⟩; all_goals (repeat' (first | trivial | (with_reducible rfl) | simp only [CC, LL, EE, QQ, seval] | (with_reducible apply And.intro) | rfl | (refine ⟨_, rfl, ?_⟩) | (simp; done) | omega)))
  · rintro ⟨⟨k, v, acc⟩, hk, hal, hv⟩
    simp only at hk hal hv
    by_cases hkl : k < l.length
    · have hs1 := getD_map eI [] 0 l k hkl
      have hd1 := drop_get 0 _ _ hkl
      generalize l.getD k 0 = x at hs1 hd1
      by_cases hk2 : k + 1 < l.length
      · have hs2 := getD_map eI [] 0 l (k + 1) hk2
        have hd2 := drop_get 0 _ _ hk2
        generalize l.getD (k + 1) 0 = y at hs2 hd2
        have q : decide ((k : Int) + 1 < (l.length : Int)) = true := by simp; omega
        have q2 : ((k : Int) + 1).toNat = k + 1 := by omega
        rw [hd1, hd2, upF_two] at hv
        repeat' (first | simp (maxSteps := 9999999) only [↓GE, PL, PP, EE, QQ, seval, hs1, hs2, q, q2, eI, List.length_map] | (simp (disch := omega) only [IntWalk.i64_in]) | (refine go_brD (fun h => ?_) (fun h => ?_)) | (refine go_gsD (by ((try simp only [EE, QQ, seval]) <;> rfl)) (fun h => ?_) (fun h => ?_)) | (refine go_br (fun h => ?_) (fun h => ?_)) | (refine go_gs (by ((try simp only [EE, QQ, seval]) <;> rfl)) (fun h => ?_) (fun h => ?_)) | (apply go_call 5000 (r11node x y) rfl rfl; (· ((try simp only [CC, LL, NM, EE, QQ, seval]) <;> (first | rfl | ((repeat constructor); done)))); (· exact CallForm.plain rfl); (· ((try simp only [CC, LL, NM, EE, QQ, seval]) <;> (first | rfl | ((repeat constructor); done)))); (· ((try simp only [CC, LL, NM, EE, QQ, seval]) <;> (first | rfl | ((repeat constructor); done))))) | (with_reducible apply And.intro) | (with_reducible exact trivial) | omega | (simp only [List.length_map, List.length_cons, List.length_nil] at *; omega) | (show _ = true; first | rfl | kernel_rfl))
        refine ⟨⟨(k + 2, v + 1, acc ++ [nodeF x y]), by simp only; omega, by simp; omega, by rw [hv]; simp⟩, ?_, by simp only; omega⟩
        (simp only [GeS]; refine ⟨?_, ?_, ?_, ?_⟩; all_goals (repeat' (first | trivial | (with_reducible rfl) | simp only [CC, LL, EE, QQ, seval] | (with_reducible apply And.intro) | rfl | (refine ⟨_, rfl, ?_⟩) | (simp [eI]; done) | omega)))
      · have q : decide ((k : Int) + 1 < (l.length : Int)) = false := by simp; omega
        rw [hd1, List.drop_of_length_le (by omega), upF_one] at hv
        repeat' (first | simp (maxSteps := 9999999) only [↓GE, PL, PP, EE, QQ, seval, hs1, q, eI, List.length_map] | (simp (disch := omega) only [IntWalk.i64_in]) | (refine go_brD (fun h => ?_) (fun h => ?_)) | (refine go_gsD (by ((try simp only [EE, QQ, seval]) <;> rfl)) (fun h => ?_) (fun h => ?_)) | (refine go_br (fun h => ?_) (fun h => ?_)) | (refine go_gs (by ((try simp only [EE, QQ, seval]) <;> rfl)) (fun h => ?_) (fun h => ?_)) | (with_reducible apply And.intro) | (with_reducible exact trivial) | omega | (simp only [List.length_map, List.length_cons, List.length_nil] at *; omega) | (show _ = true; first | rfl | kernel_rfl))
        refine ⟨⟨(k + 2, v + 1, acc ++ [x]), by simp only; omega, by simp; omega, by rw [hv, List.drop_of_length_le (by omega), upF_nil]; simp⟩, ?_, by simp only; omega⟩
        (simp only [GeS]; refine ⟨?_, ?_, ?_, ?_⟩; all_goals (repeat' (first | trivial | (with_reducible rfl) | simp only [CC, LL, EE, QQ, seval] | (with_reducible apply And.intro) | rfl | (refine ⟨_, rfl, ?_⟩) | (simp [eI]; done) | omega)))
    · rw [List.drop_of_length_le (by omega), upF_nil, List.append_nil] at hv
      subst hv
      repeat' (first | simp (maxSteps := 9999999) only [↓GE, PL, PP, EE, QQ, seval] | (simp (disch := omega) only [IntWalk.i64_in]) | (refine go_brD (fun h => ?_) (fun h => ?_)) | (refine go_gsD (by ((try simp only [EE, QQ, seval]) <;> rfl)) (fun h => ?_) (fun h => ?_)) | (refine go_br (fun h => ?_) (fun h => ?_)) | (refine go_gs (by ((try simp only [EE, QQ, seval]) <;> rfl)) (fun h => ?_) (fun h => ?_)) | (with_reducible apply And.intro) | (with_reducible exact trivial) | omega | (simp only [List.length_map, List.length_cons, List.length_nil] at *; omega) | (show _ = true; first | rfl | kernel_rfl))
      all_goals ((first | apply ret_mk [some 28] | apply end_mk [some 28]); (· ((try simp only [CC, LL, EE, QQ, seval]) <;> rfl)); (· ((try simp only [CC, LL, EE, QQ, seval]) <;> repeat' (first | (with_reducible apply And.intro) | rfl | trivial | (exact ⟨_, rfl⟩) | (exact ⟨_, _, _, rfl⟩) | (simp [*, ]; done) | (simp [*, ]; omega) | (simp_all []; done) | (simp_all []; omega)))); all_goals (first | trivial | decide | ((try simp only [CC, LL, EE, QQ, seval]) <;> repeat' (first | (with_reducible apply And.intro) | (exact ⟨_, rfl, rfl, rfl⟩) | (exact ⟨_, _, _, rfl⟩) | (exact ⟨_, rfl⟩) | trivial | rfl | (simp; done)))))
def rootN : Nat → List Int → Int
  | 0, l => l.getD 0 0
  | n + 1, l => if l.length > 1 then rootN n (upF l) else l.getD 0 0
def rootF (l : List Int) : Int × Int := if listErr l ≠ 0 then (0, listErr l) else if l.length = 0 then (0, 0) else (rootN l.length l, 0)
theorem rootN_any : ∀ {n m : Nat} {l : List Int}, l.length ≤ n + 1 → l.length ≤ m + 1 → rootN n l = rootN m l
  | 0, 0, l, _, _ => rfl
  | 0, m + 1, l, h, _ => by rw [rootN, rootN, if_neg (by omega)]
  | n + 1, 0, l, _, h => by rw [rootN, rootN, if_neg (by omega)]
  | n + 1, m + 1, l, h1, h2 => by
    rw [rootN, rootN]
    split
    · exact rootN_any (by rw [upF_len]; omega) (by rw [upF_len]; omega)
    · rfl
theorem r12root (l : List Int) (hl : l.length ≤ 17592186044416) : Does Try.prog 86 [.d (dInts l)] [] (.tu [I (rootF l).1, I (rootF l).2]) [] [] := by
  refine go_ref12_Root rfl BxOK.nil fun cx hm0 => go_in 5000 ?_
  unfold ac_ref12_Root rs_ref12_Root
  by_cases h1 : listErr l = 0
  case neg =>
    have hv : rootF l = (0, listErr l) := by simp [rootF, h1]
    rw [hv]
    have h1' : (listErr l != 0) = true := by simpa using h1
    repeat' (first | simp (maxSteps := 9999999) only [↓GE, PL, PP, EE, QQ, seval, h1'] | (simp (disch := omega) only [IntWalk.i64_in]) | (refine go_brD (fun h => ?_) (fun h => ?_)) | (refine go_gsD (by ((try simp only [EE, QQ, seval]) <;> rfl)) (fun h => ?_) (fun h => ?_)) | (refine go_br (fun h => ?_) (fun h => ?_)) | (refine go_gs (by ((try simp only [EE, QQ, seval]) <;> rfl)) (fun h => ?_) (fun h => ?_)) | (apply go_call 5000 (r12list l hl) rfl rfl; (· ((try simp only [CC, LL, NM, EE, QQ, seval]) <;> (first | rfl | ((repeat constructor); done)))); (· exact CallForm.plain rfl); (· ((try simp only [CC, LL, NM, EE, QQ, seval]) <;> (first | rfl | ((repeat constructor); done)))); (· ((try simp only [CC, LL, NM, EE, QQ, seval]) <;> (first | rfl | ((repeat constructor); done))))) | (with_reducible apply And.intro) | (with_reducible exact trivial) | omega | (simp only [List.length_map, List.length_cons, List.length_nil] at *; omega) | (show _ = true; first | rfl | kernel_rfl))
    all_goals ((first | apply ret_mk [] | apply end_mk []); (· ((try simp only [CC, LL, EE, QQ, seval]) <;> rfl)); (· ((try simp only [CC, LL, EE, QQ, seval]) <;> repeat' (first | (with_reducible apply And.intro) | rfl | trivial | (exact ⟨_, rfl⟩) | (exact ⟨_, _, _, rfl⟩) | (simp [*, ]; done) | (simp [*, ]; omega) | (simp_all []; done) | (simp_all []; omega)))); all_goals (first | trivial | decide | ((try simp only [CC, LL, EE, QQ, seval]) <;> repeat' (first | (with_reducible apply And.intro) | (exact ⟨_, rfl, rfl, rfl⟩) | (exact ⟨_, _, _, rfl⟩) | (exact ⟨_, rfl⟩) | trivial | rfl | (simp; done)))))
  by_cases h2 : l.length = 0
  · have hv : rootF l = (0, 0) := by simp [rootF, h1, h2]
    rw [hv]
    have q : ((l.length : Int) == 0) = true := by rw [beq_iff_eq]; omega
    repeat' (first | simp (maxSteps := 9999999) only [↓GE, PL, PP, EE, QQ, seval, h1, q, List.length_map] | (simp (disch := omega) only [IntWalk.i64_in]) | (refine go_brD (fun h => ?_) (fun h => ?_)) | (refine go_gsD (by ((try simp only [EE, QQ, seval]) <;> rfl)) (fun h => ?_) (fun h => ?_)) | (refine go_br (fun h => ?_) (fun h => ?_)) | (refine go_gs (by ((try simp only [EE, QQ, seval]) <;> rfl)) (fun h => ?_) (fun h => ?_)) | (apply go_call 5000 (r12list l hl) rfl rfl; (· ((try simp only [CC, LL, NM, EE, QQ, seval]) <;> (first | rfl | ((repeat constructor); done)))); (· exact CallForm.plain rfl); (· ((try simp only [CC, LL, NM, EE, QQ, seval]) <;> (first | rfl | ((repeat constructor); done)))); (· ((try simp only [CC, LL, NM, EE, QQ, seval]) <;> (first | rfl | ((repeat constructor); done))))) | (with_reducible apply And.intro) | (with_reducible exact trivial) | omega | (simp only [List.length_map, List.length_cons, List.length_nil] at *; omega) | (show _ = true; first | rfl | kernel_rfl))
    all_goals ((first | apply ret_mk [] | apply end_mk []); (· ((try simp only [CC, LL, EE, QQ, seval]) <;> rfl)); (· ((try simp only [CC, LL, EE, QQ, seval]) <;> repeat' (first | (with_reducible apply And.intro) | rfl | trivial | (exact ⟨_, rfl⟩) | (exact ⟨_, _, _, rfl⟩) | (simp [*, ]; done) | (simp [*, ]; omega) | (simp_all []; done) | (simp_all []; omega)))); all_goals (first | trivial | decide | ((try simp only [CC, LL, EE, QQ, seval]) <;> repeat' (first | (with_reducible apply And.intro) | (exact ⟨_, rfl, rfl, rfl⟩) | (exact ⟨_, _, _, rfl⟩) | (exact ⟨_, rfl⟩) | trivial | rfl | (simp; done)))))
  have q : ((l.length : Int) == 0) = false := by rw [beq_eq_false_iff_ne]; omega
  have hv : rootF l = (rootN l.length l, 0) := by simp [rootF, h1, h2]
  rw [hv]
  repeat' (first | simp (maxSteps := 9999999) only [↓GE, PL, PP, EE, QQ, seval, h1, q, List.length_map] | (simp (disch := omega) only [IntWalk.i64_in]) | (refine go_brD (fun h => ?_) (fun h => ?_)) | (refine go_gsD (by ((try simp only [EE, QQ, seval]) <;> rfl)) (fun h => ?_) (fun h => ?_)) | (refine go_br (fun h => ?_) (fun h => ?_)) | (refine go_gs (by ((try simp only [EE, QQ, seval]) <;> rfl)) (fun h => ?_) (fun h => ?_)) | (apply go_call 5000 (r12list l hl) rfl rfl; (· ((try simp only [CC, LL, NM, EE, QQ, seval]) <;> (first | rfl | ((repeat constructor); done)))); (· exact CallForm.plain rfl); (· ((try simp only [CC, LL, NM, EE, QQ, seval]) <;> (first | rfl | ((repeat constructor); done)))); (· ((try simp only [CC, LL, NM, EE, QQ, seval]) <;> (first | rfl | ((repeat constructor); done))))) | (with_reducible apply And.intro) | (with_reducible exact trivial) | omega | (simp only [List.length_map, List.length_cons, List.length_nil] at *; omega) | (show _ = true; first | rfl | kernel_rfl))
  have hl0 : 0 < l.length := by omega
  generalize hRR : rootN l.length l = R
  refine go_loopz 5000 hm0 (ι := {p : List Int // 0 < p.length ∧ p.length ≤ l.length ∧ R = rootN p.length p}) (fun i => [(0, .d (dInts i.1))]) (fun i => []) (fun i => i.1.length) [] [] ⟨l, hl0, Nat.le_refl _, hRR.symm⟩ ?_ ?_
  · simp only [GeZ]; (simp only [GeS]; refine ⟨?_, ?_, ?_, ?_⟩; all_goals (repeat' (first | trivial | (with_reducible rfl) | simp only [CC, LL, EE, QQ, seval] | (with_reducible apply And.intro) | rfl | (refine ⟨_, rfl, ?_⟩) | (simp; done) | omega)))
  · rintro ⟨p, hp, hpl, hv⟩
    by_cases h3 : p.length > 1
    · have q3 : decide ((p.length : Int) > 1) = true := by simp; omega
      have hp' := Nat.le_trans hpl hl
      repeat' (first | simp (maxSteps := 9999999) only [↓GE, PL, PP, EE, QQ, seval, q3, List.length_map] | (simp (disch := omega) only [IntWalk.i64_in]) | (refine go_brD (fun h => ?_) (fun h => ?_)) | (refine go_gsD (by ((try simp only [EE, QQ, seval]) <;> rfl)) (fun h => ?_) (fun h => ?_)) | (refine go_br (fun h => ?_) (fun h => ?_)) | (refine go_gs (by ((try simp only [EE, QQ, seval]) <;> rfl)) (fun h => ?_) (fun h => ?_)) | (apply go_call 5000 (r12up p hp') rfl rfl; (· ((try simp only [CC, LL, NM, EE, QQ, seval]) <;> (first | rfl | ((repeat constructor); done)))); (· exact CallForm.news rfl rfl); (· ((try simp only [CC, LL, NM, EE, QQ, seval]) <;> (first | rfl | ((repeat constructor); done)))); (· ((try simp only [CC, LL, NM, EE, QQ, seval]) <;> (first | rfl | ((repeat constructor); done))))) | (with_reducible apply And.intro) | (with_reducible exact trivial) | omega | (simp only [List.length_map, List.length_cons, List.length_nil] at *; omega) | (show _ = true; first | rfl | kernel_rfl))
      have hul := upF_len (l := p)
      refine ⟨[.og 19000 0], [], ⟨upF p, by omega, by omega, by
        rw [hv]
        cases hn : p.length with
        | zero => omega
        | succ n => rw [rootN, if_pos h3]; exact rootN_any (by omega) (by omega)⟩, ?_, by simp only; omega⟩
      simp only [GeZ]; (simp only [GeS]; refine ⟨?_, ?_, ?_, ?_⟩; all_goals (repeat' (first | trivial | (with_reducible rfl) | simp only [CC, LL, EE, QQ, seval] | (with_reducible apply And.intro) | rfl | (refine ⟨_, rfl, ?_⟩) | (simp; done) | omega)))
    · have q3 : decide ((p.length : Int) > 1) = false := by simp; omega
      have hs1 := getD_map eI [] 0 p 0 hp
      have hr : rootN p.length p = p.getD 0 0 := by
        cases hn : p.length with
        | zero => omega
        | succ n => rw [rootN, if_neg (by omega)]
      subst hv
      repeat' (first | simp (maxSteps := 9999999) only [↓GE, PL, PP, EE, QQ, seval, q3, hs1, hr, eI, List.length_map] | (simp (disch := omega) only [IntWalk.i64_in]) | (refine go_brD (fun h => ?_) (fun h => ?_)) | (refine go_gsD (by ((try simp only [EE, QQ, seval]) <;> rfl)) (fun h => ?_) (fun h => ?_)) | (refine go_br (fun h => ?_) (fun h => ?_)) | (refine go_gs (by ((try simp only [EE, QQ, seval]) <;> rfl)) (fun h => ?_) (fun h => ?_)) | (with_reducible apply And.intro) | (with_reducible exact trivial) | omega | (simp only [List.length_map, List.length_cons, List.length_nil] at *; omega) | (show _ = true; first | rfl | kernel_rfl))
      all_goals ((first | apply ret_mk [] | apply end_mk []); (· ((try simp only [CC, LL, EE, QQ, seval]) <;> rfl)); (· ((try simp only [CC, LL, EE, QQ, seval]) <;> repeat' (first | (with_reducible apply And.intro) | rfl | trivial | (exact ⟨_, rfl⟩) | (exact ⟨_, _, _, rfl⟩) | (simp [*, ]; done) | (simp [*, ]; omega) | (simp_all []; done) | (simp_all []; omega)))); all_goals (first | trivial | decide | ((try simp only [CC, LL, EE, QQ, seval]) <;> repeat' (first | (with_reducible apply And.intro) | (exact ⟨_, rfl, rfl, rfl⟩) | (exact ⟨_, _, _, rfl⟩) | (exact ⟨_, rfl⟩) | trivial | rfl | (simp; done)))))
structure PHead where
  num : Int
  p : Int
  count : Int
  width : Int
  root : Int
abbrev vHead (h : PHead) : V := .ag [I h.num, I h.p, I h.count, I h.width, I h.root]
noncomputable def headF (t : PTab) : PHead × Int := if checkT t ≠ 0 then (⟨0, 0, 0, 0, 0⟩, checkT t) else (⟨t.num, t.p, t.rows.length, t.width, (rootF (t.rows.map rowF)).1⟩, 0)
theorem r14head (t : PTab) (hl : t.rows.length ≤ 17592186044416) (hs : Short t.rows) : Does Try.prog 38 [vTab t] [] (.tu [vHead (headF t).1, I (headF t).2]) [] [] := by
  refine go_ref14_Head rfl BxOK.nil fun cx hm0 => go_in 5000 ?_
  unfold ac_ref14_Head rs_ref14_Head
  have hdl : (r14digF t).1.length ≤ 17592186044416 := by unfold r14digF; split <;> simp; exact hl
  by_cases h1 : checkT t = 0
  case neg =>
    have hv : headF t = (⟨0, 0, 0, 0, 0⟩, checkT t) := by simp [headF, h1]
    have hv2 : r14digF t = ([], checkT t) := by simp [r14digF, h1]
    rw [hv]
    have hD := r14digests t hl hs
    rw [hv2] at hD
    have h1' : (checkT t != 0) = true := by simpa using h1
    repeat' (first | simp (maxSteps := 9999999) only [↓GE, PL, PP, EE, QQ, seval, h1'] | (simp (disch := omega) only [IntWalk.i64_in]) | (refine go_brD (fun h => ?_) (fun h => ?_)) | (refine go_gsD (by ((try simp only [EE, QQ, seval]) <;> rfl)) (fun h => ?_) (fun h => ?_)) | (refine go_br (fun h => ?_) (fun h => ?_)) | (refine go_gs (by ((try simp only [EE, QQ, seval]) <;> rfl)) (fun h => ?_) (fun h => ?_)) | (apply go_call 5000 (hD) rfl rfl; (· ((try simp only [CC, LL, NM, EE, QQ, seval]) <;> (first | rfl | ((repeat constructor); done)))); (· exact CallForm.news rfl rfl); (· ((try simp only [CC, LL, NM, EE, QQ, seval]) <;> (first | rfl | ((repeat constructor); done)))); (· ((try simp only [CC, LL, NM, EE, QQ, seval]) <;> (first | rfl | ((repeat constructor); done))))) | (with_reducible apply And.intro) | (with_reducible exact trivial) | omega | (simp only [List.length_map, List.length_cons, List.length_nil] at *; omega) | (show _ = true; first | rfl | kernel_rfl))
    all_goals ((first | apply ret_mk [] | apply end_mk []); (· ((try simp only [CC, LL, EE, QQ, seval]) <;> rfl)); (· ((try simp only [CC, LL, EE, QQ, seval]) <;> repeat' (first | (with_reducible apply And.intro) | rfl | trivial | (exact ⟨_, rfl⟩) | (exact ⟨_, _, _, rfl⟩) | (simp [*, ]; done) | (simp [*, ]; omega) | (simp_all []; done) | (simp_all []; omega)))); all_goals (first | trivial | decide | ((try simp only [CC, LL, EE, QQ, seval]) <;> repeat' (first | (with_reducible apply And.intro) | (exact ⟨_, rfl, rfl, rfl⟩) | (exact ⟨_, _, _, rfl⟩) | (exact ⟨_, rfl⟩) | trivial | rfl | (simp; done)))))
  have hv : headF t = (⟨t.num, t.p, t.rows.length, t.width, (rootF (t.rows.map rowF)).1⟩, 0) := by simp [headF, h1]
  have hv2 : r14digF t = (t.rows.map rowF, 0) := by simp [r14digF, h1]
  rw [hv]
  have hD := r14digests t hl hs
  rw [hv2] at hD
  repeat' (first | simp (maxSteps := 9999999) only [↓GE, PL, PP, EE, QQ, seval, h1] | (simp (disch := omega) only [IntWalk.i64_in]) | (refine go_brD (fun h => ?_) (fun h => ?_)) | (refine go_gsD (by ((try simp only [EE, QQ, seval]) <;> rfl)) (fun h => ?_) (fun h => ?_)) | (refine go_br (fun h => ?_) (fun h => ?_)) | (refine go_gs (by ((try simp only [EE, QQ, seval]) <;> rfl)) (fun h => ?_) (fun h => ?_)) | (apply go_call 5000 (hD) rfl rfl; (· ((try simp only [CC, LL, NM, EE, QQ, seval]) <;> (first | rfl | ((repeat constructor); done)))); (· exact CallForm.news rfl rfl); (· ((try simp only [CC, LL, NM, EE, QQ, seval]) <;> (first | rfl | ((repeat constructor); done)))); (· ((try simp only [CC, LL, NM, EE, QQ, seval]) <;> (first | rfl | ((repeat constructor); done))))) | (apply go_call 5000 (r12root (t.rows.map rowF) (by rw [List.length_map]; exact hl)) rfl rfl; (· ((try simp only [CC, LL, NM, EE, QQ, seval]) <;> (first | rfl | ((repeat constructor); done)))); (· exact CallForm.plain rfl); (· ((try simp only [CC, LL, NM, EE, QQ, seval]) <;> (first | rfl | ((repeat constructor); done)))); (· ((try simp only [CC, LL, NM, EE, QQ, seval]) <;> (first | rfl | ((repeat constructor); done))))) | (with_reducible apply And.intro) | (with_reducible exact trivial) | omega | (simp only [List.length_map, List.length_cons, List.length_nil] at *; omega) | (show _ = true; first | rfl | kernel_rfl))
  all_goals ((first | apply ret_mk [] | apply end_mk []); (· ((try simp only [CC, LL, EE, QQ, seval]) <;> rfl)); (· ((try simp only [CC, LL, EE, QQ, seval]) <;> repeat' (first | (with_reducible apply And.intro) | rfl | trivial | (exact ⟨_, rfl⟩) | (exact ⟨_, _, _, rfl⟩) | (simp [*, ]; done) | (simp [*, ]; omega) | (simp_all []; done) | (simp_all []; omega)))); all_goals (first | trivial | decide | ((try simp only [CC, LL, EE, QQ, seval]) <;> repeat' (first | (with_reducible apply And.intro) | (exact ⟨_, rfl, rfl, rfl⟩) | (exact ⟨_, _, _, rfl⟩) | (exact ⟨_, rfl⟩) | trivial | rfl | (simp; done)))))
def holdsF (h : PHead) (l : List Int) : Int := if (l.length : Int) ≠ h.count then 2 else if (rootF l).2 ≠ 0 then (rootF l).2 else if (rootF l).1 ≠ h.root then 13 else 0
theorem r14holds (h : PHead) (l : List Int) (hl : l.length ≤ 17592186044416) : Does Try.prog 39 [vHead h, .d (dInts l)] [] (I (holdsF h l)) [] [] := by
  refine go_ref14_Holds rfl BxOK.nil fun cx hm0 => go_in 5000 ?_
  unfold ac_ref14_Holds rs_ref14_Holds
  by_cases h1 : (l.length : Int) = h.count
  case neg =>
    have hv : holdsF h l = 2 := by simp [holdsF, h1]
    rw [hv]
    have q : ((l.length : Int) != h.count) = true := by simpa using h1
    repeat' (first | simp (maxSteps := 9999999) only [↓GE, PL, PP, EE, QQ, seval, q, List.length_map] | (simp (disch := omega) only [IntWalk.i64_in]) | (refine go_brD (fun h => ?_) (fun h => ?_)) | (refine go_gsD (by ((try simp only [EE, QQ, seval]) <;> rfl)) (fun h => ?_) (fun h => ?_)) | (refine go_br (fun h => ?_) (fun h => ?_)) | (refine go_gs (by ((try simp only [EE, QQ, seval]) <;> rfl)) (fun h => ?_) (fun h => ?_)) | (with_reducible apply And.intro) | (with_reducible exact trivial) | omega | (simp only [List.length_map, List.length_cons, List.length_nil] at *; omega) | (show _ = true; first | rfl | kernel_rfl))
    all_goals ((first | apply ret_mk [] | apply end_mk []); (· ((try simp only [CC, LL, EE, QQ, seval]) <;> rfl)); (· ((try simp only [CC, LL, EE, QQ, seval]) <;> repeat' (first | (with_reducible apply And.intro) | rfl | trivial | (exact ⟨_, rfl⟩) | (exact ⟨_, _, _, rfl⟩) | (simp [*, ]; done) | (simp [*, ]; omega) | (simp_all []; done) | (simp_all []; omega)))); all_goals (first | trivial | decide | ((try simp only [CC, LL, EE, QQ, seval]) <;> repeat' (first | (with_reducible apply And.intro) | (exact ⟨_, rfl, rfl, rfl⟩) | (exact ⟨_, _, _, rfl⟩) | (exact ⟨_, rfl⟩) | trivial | rfl | (simp; done)))))
  have q : ((l.length : Int) != h.count) = false := by simpa using h1
  by_cases h2 : (rootF l).2 = 0
  case neg =>
    have hv : holdsF h l = (rootF l).2 := by simp [holdsF, h1, h2]
    rw [hv]
    have q2 : ((rootF l).2 != 0) = true := by simpa using h2
    repeat' (first | simp (maxSteps := 9999999) only [↓GE, PL, PP, EE, QQ, seval, q, q2, List.length_map] | (simp (disch := omega) only [IntWalk.i64_in]) | (refine go_brD (fun h => ?_) (fun h => ?_)) | (refine go_gsD (by ((try simp only [EE, QQ, seval]) <;> rfl)) (fun h => ?_) (fun h => ?_)) | (refine go_br (fun h => ?_) (fun h => ?_)) | (refine go_gs (by ((try simp only [EE, QQ, seval]) <;> rfl)) (fun h => ?_) (fun h => ?_)) | (apply go_call 5000 (r12root l hl) rfl rfl; (· ((try simp only [CC, LL, NM, EE, QQ, seval]) <;> (first | rfl | ((repeat constructor); done)))); (· exact CallForm.plain rfl); (· ((try simp only [CC, LL, NM, EE, QQ, seval]) <;> (first | rfl | ((repeat constructor); done)))); (· ((try simp only [CC, LL, NM, EE, QQ, seval]) <;> (first | rfl | ((repeat constructor); done))))) | (with_reducible apply And.intro) | (with_reducible exact trivial) | omega | (simp only [List.length_map, List.length_cons, List.length_nil] at *; omega) | (show _ = true; first | rfl | kernel_rfl))
    all_goals ((first | apply ret_mk [] | apply end_mk []); (· ((try simp only [CC, LL, EE, QQ, seval]) <;> rfl)); (· ((try simp only [CC, LL, EE, QQ, seval]) <;> repeat' (first | (with_reducible apply And.intro) | rfl | trivial | (exact ⟨_, rfl⟩) | (exact ⟨_, _, _, rfl⟩) | (simp [*, ]; done) | (simp [*, ]; omega) | (simp_all []; done) | (simp_all []; omega)))); all_goals (first | trivial | decide | ((try simp only [CC, LL, EE, QQ, seval]) <;> repeat' (first | (with_reducible apply And.intro) | (exact ⟨_, rfl, rfl, rfl⟩) | (exact ⟨_, _, _, rfl⟩) | (exact ⟨_, rfl⟩) | trivial | rfl | (simp; done)))))
  have q2 : ((rootF l).2 != 0) = false := by simpa using h2
  by_cases h3 : (rootF l).1 = h.root
  case neg =>
    have hv : holdsF h l = 13 := by simp [holdsF, h1, h2, h3]
    rw [hv]
    have q3 : ((rootF l).1 != h.root) = true := by simpa using h3
    repeat' (first | simp (maxSteps := 9999999) only [↓GE, PL, PP, EE, QQ, seval, q, q2, q3, List.length_map] | (simp (disch := omega) only [IntWalk.i64_in]) | (refine go_brD (fun h => ?_) (fun h => ?_)) | (refine go_gsD (by ((try simp only [EE, QQ, seval]) <;> rfl)) (fun h => ?_) (fun h => ?_)) | (refine go_br (fun h => ?_) (fun h => ?_)) | (refine go_gs (by ((try simp only [EE, QQ, seval]) <;> rfl)) (fun h => ?_) (fun h => ?_)) | (apply go_call 5000 (r12root l hl) rfl rfl; (· ((try simp only [CC, LL, NM, EE, QQ, seval]) <;> (first | rfl | ((repeat constructor); done)))); (· exact CallForm.plain rfl); (· ((try simp only [CC, LL, NM, EE, QQ, seval]) <;> (first | rfl | ((repeat constructor); done)))); (· ((try simp only [CC, LL, NM, EE, QQ, seval]) <;> (first | rfl | ((repeat constructor); done))))) | (with_reducible apply And.intro) | (with_reducible exact trivial) | omega | (simp only [List.length_map, List.length_cons, List.length_nil] at *; omega) | (show _ = true; first | rfl | kernel_rfl))
    all_goals ((first | apply ret_mk [] | apply end_mk []); (· ((try simp only [CC, LL, EE, QQ, seval]) <;> rfl)); (· ((try simp only [CC, LL, EE, QQ, seval]) <;> repeat' (first | (with_reducible apply And.intro) | rfl | trivial | (exact ⟨_, rfl⟩) | (exact ⟨_, _, _, rfl⟩) | (simp [*, ]; done) | (simp [*, ]; omega) | (simp_all []; done) | (simp_all []; omega)))); all_goals (first | trivial | decide | ((try simp only [CC, LL, EE, QQ, seval]) <;> repeat' (first | (with_reducible apply And.intro) | (exact ⟨_, rfl, rfl, rfl⟩) | (exact ⟨_, _, _, rfl⟩) | (exact ⟨_, rfl⟩) | trivial | rfl | (simp; done)))))
  have q3 : ((rootF l).1 != h.root) = false := by simpa using h3
  have hv : holdsF h l = 0 := by simp [holdsF, h1, h2, h3]
  rw [hv]
  repeat' (first | simp (maxSteps := 9999999) only [↓GE, PL, PP, EE, QQ, seval, q, q2, q3, List.length_map] | (simp (disch := omega) only [IntWalk.i64_in]) | (refine go_brD (fun h => ?_) (fun h => ?_)) | (refine go_gsD (by ((try simp only [EE, QQ, seval]) <;> rfl)) (fun h => ?_) (fun h => ?_)) | (refine go_br (fun h => ?_) (fun h => ?_)) | (refine go_gs (by ((try simp only [EE, QQ, seval]) <;> rfl)) (fun h => ?_) (fun h => ?_)) | (apply go_call 5000 (r12root l hl) rfl rfl; (· ((try simp only [CC, LL, NM, EE, QQ, seval]) <;> (first | rfl | ((repeat constructor); done)))); (· exact CallForm.plain rfl); (· ((try simp only [CC, LL, NM, EE, QQ, seval]) <;> (first | rfl | ((repeat constructor); done)))); (· ((try simp only [CC, LL, NM, EE, QQ, seval]) <;> (first | rfl | ((repeat constructor); done))))) | (with_reducible apply And.intro) | (with_reducible exact trivial) | omega | (simp only [List.length_map, List.length_cons, List.length_nil] at *; omega) | (show _ = true; first | rfl | kernel_rfl))
  all_goals ((first | apply ret_mk [] | apply end_mk []); (· ((try simp only [CC, LL, EE, QQ, seval]) <;> rfl)); (· ((try simp only [CC, LL, EE, QQ, seval]) <;> repeat' (first | (with_reducible apply And.intro) | rfl | trivial | (exact ⟨_, rfl⟩) | (exact ⟨_, _, _, rfl⟩) | (simp [*, ]; done) | (simp [*, ]; omega) | (simp_all []; done) | (simp_all []; omega)))); all_goals (first | trivial | decide | ((try simp only [CC, LL, EE, QQ, seval]) <;> repeat' (first | (with_reducible apply And.intro) | (exact ⟨_, rfl, rfl, rfl⟩) | (exact ⟨_, _, _, rfl⟩) | (exact ⟨_, rfl⟩) | trivial | rfl | (simp; done)))))
end Go.Proofs.Ytilkjcobkdjlkaa.Sim
end
