/- What one server sees of two reads, counted: the walk. -/
import Derived.Test.YthbhkkdaaipngaaGreatDoorMTpEa
import Derived.Test.YthbhkkdaaipngaaGreatDoorMTpDb
import Derived.Test.YthbhkkdaaipngaaGreatDoorMTpCq2
namespace Go.Proofs.YthbhkkdaaipngaaGreatDoor.Sim
open Go Go.RowKit Go.Deep
set_option maxRecDepth 100000
set_option maxHeartbeats 8000000
set_option linter.unusedVariables false
set_option linter.unusedSimpArgs false
attribute [local irreducible] Go Mean
theorem cntN_le {view : Nat → Int} {N : Nat} : ∀ {K v : Nat}, 0 ≤ (cntN view N K).getD v 0 ∧ (cntN view N K).getD v 0 ≤ (K : Int)
  | 0, v => by
    rw [cntN, List.getD_eq_getElem?_getD, List.getElem?_replicate]
    split <;> simp
  | K + 1, v => by
    have h1 := cntN_le (view := view) (N := N) (K := K) (v := v)
    have h2 := cntN_le (view := view) (N := N) (K := K) (v := (view K).toNat)
    rw [cntN, List.getD_eq_getElem?_getD, List.getElem?_set]
    split
    · split
      · simp only [Option.getD_some]; omega
      · simp; omega
    · rw [← List.getD_eq_getElem?_getD]; omega
theorem atF_in {b : Int} (hb : 1 ≤ b) : ∀ (n : Nat) (x : Int), (atF (List.replicate n b) x).all (inE b) = true
  | 0, x => rfl
  | n + 1, x => by
    have h1 := Int.emod_nonneg x (show b ≠ 0 by omega)
    have h2 := Int.emod_lt_of_pos x (show 0 < b by omega)
    simp only [List.replicate_succ, atF, List.all_cons, Bool.and_eq_true, inE]
    exact ⟨⟨decide_eq_true h1, decide_eq_true h2⟩, atF_in hb n _⟩
theorem tapeOK_of {p : Int} {nums : List Int} {at_ count : Nat} (h : nums.all (inE p) = true) (h1 : at_ + count ≤ nums.length) (h2 : nums.length ≤ 16384) : TapeOK nums at_ p count :=
  ⟨h2, h1, fun i hi => all_getD h (by omega)⟩
theorem lim3_eq (n : Nat) : lim3 n = List.replicate (2 * n) 3 := by
  rw [lim3, Nat.mul_one, List.replicate_append_replicate, Nat.two_mul]
/-- A read of two servers, what one gets. -/
theorem query2 (n ix who : Nat) (nums : List Int) (at_ : Nat) (hn : 1 ≤ n) (hn3 : n ≤ 3) (hix : ix < n) (hw : who < 2) (ht : TapeOK nums at_ 3 (n * 1)) : ∃ QS : List (List Int), QS.length = 2 ∧ QS.getD who [] = viewQ 3 who n ix nums at_ ∧
    Does Tryz.prog 12 [.ag [I 3], .ag [I 2, I 1], I n, I ix, .ag [.d (dInts nums), I at_]] [] (.tu [.d (dRows QS), .ag [.d (dInts nums), I (at_ + n : Nat)], I 0]) [] [] := by
  have h := queriesC_2 3 1 n ix field3 (by decide) (by decide) (by decide) hn (by omega) hix nums at_ ht
  rw [show at_ + n * 1 = at_ + n by omega] at h
  refine ⟨_, rfl, ?_, h⟩
  have hc : who = 0 ∨ who = 1 := by omega
  rcases hc with rfl | rfl <;> rfl
theorem pow3_le {a : Nat} (h : a ≤ 3) : (3 : Int) ^ a ≤ 27 := by
  have hc : a = 0 ∨ a = 1 ∨ a = 2 ∨ a = 3 := by omega
  rcases hc with rfl | rfl | rfl | rfl <;> decide
theorem vw_small {v : Int} {l : List Int} {j : Nat} (h : l.all (inE 3) = true) (hj : j ≤ 3) (h0 : 0 ≤ v) (h1 : v < 27) : 0 ≤ vwL 3 v (l.take j) ∧ vwL 3 v (l.take j) < 729 := by
  have := vwL_in (b := 3) (by decide) (l := l.take j) (v := v) (M := 27) (take_in h) h0 h1
  refine ⟨this.1, Int.lt_of_lt_of_le this.2 ?_⟩
  have hl : (l.take j).length ≤ 3 := by rw [List.length_take]; omega
  have h3 := pow3_le hl
  omega
theorem viewQ_all {who n ix : Nat} {nums : List Int} {at_ : Nat} (hw : who < 2) (h : TapeOK nums at_ 3 (n * 1)) : (viewQ 3 who n ix nums at_).all (inE 3) = true := colQ_all (by decide) (by omega) (cfQ_in (by decide) (drw_in h.dr))
/-- The index that is asked for. -/
theorem rem_ok {a : Int} {n : Nat} (h : 0 ≤ a ∧ a ≤ 255) (hn : 1 ≤ n) : ∃ i : Nat, i < n ∧ a.tmod (n : Int) = (i : Int) := by
  refine ⟨(a % n).toNat, ?_, ?_⟩
  · have := Int.emod_lt_of_pos a (show (0 : Int) < n by omega)
    have := Int.emod_nonneg a (show (n : Int) ≠ 0 by omega)
    omega
  · rw [Int.tmod_eq_emod_of_nonneg h.1]
    have := Int.emod_nonneg a (show (n : Int) ≠ 0 by omega)
    omega
theorem topSeq (l : List Int) (a b c e : Int) (hl : l.length ≤ 17592186044416) (ha : 0 ≤ a ∧ a ≤ 255) (hb : 0 ≤ b ∧ b ≤ 255) (hc : 0 ≤ c ∧ c ≤ 255) (he : 0 ≤ e ∧ e ≤ 255) :
    Does Tryz.prog 3 [.d (dInts l), .d (.at (.int .u8 a)), .d (.at (.int .u8 b)), .d (.at (.int .u8 c)), .d (.at (.int .u8 e))] [] (B true) [] [] := by
  refine go_top_TopSequences rfl BxOK.nil fun cx hm0 => go_in 5000 ?_
  unfold ac_top_TopSequences rs_top_TopSequences
  have e1 := few l hl
  rcases Nat.lt_or_ge 500 l.length with hf | hf
  · rw [decide_eq_false (by omega)] at e1
    repeat' (first | simp (maxSteps := 9999999) only [↓GE, PL, PP, EE, QQ, seval] | (simp (disch := omega) only [IntWalk.i64_in]) | (refine go_brD (fun h => ?_) (fun h => ?_)) | (refine go_gsD aE (fun h => ?_) (fun h => ?_)) | (refine go_br (fun h => ?_) (fun h => ?_)) | (refine go_gs aE (fun h => ?_) (fun h => ?_)) | (apply go_call 5000 (awakeT) rfl rfl; iterate 4 (first | (exact CallForm.plain rfl) | exact aC)) | (apply go_call 5000 (e1) rfl rfl; iterate 4 (first | (exact CallForm.plain rfl) | exact aC)) | (with_reducible apply And.intro) | exact aG | fail)
    all_goals ((first | apply ret_mk [] | apply end_mk []); (· exact aR); (· exact aZ); all_goals exact aF)
  rw [decide_eq_true hf] at e1
  have e2 := makeNew l
  obtain ⟨x0, hx0, hx0b⟩ : ∃ x, x = nextV l 0 3 ∧ 0 ≤ x ∧ x < 3 := ⟨_, rfl, by
    unfold nextV
    split
    · omega
    · exact ⟨Int.emod_nonneg _ (by omega), Int.emod_lt_of_pos _ (by omega)⟩⟩
  have e3 := (next l hl 0 3 (by omega)).nm1 47000 0 (by omega) rfl rfl rfl rfl rfl
  rw [← hx0] at e3
  obtain ⟨n, hnx⟩ : ∃ n : Nat, (n : Int) = 1 + x0 := ⟨(1 + x0).toNat, by omega⟩
  have hn : 1 ≤ n := by omega
  have hn3 : n ≤ 3 := by omega
  have w1 : IntKind.i64.wrap (1 + x0) = (n : Int) := by rw [IntWalk.i64_in _ (by omega)]; omega
  have e4 := limitsT 3 2 1 n 1 rfl field3 ⟨by decide, by decide, by decide, by decide⟩ (by decide) hn (by omega)
  repeat' (first | simp (maxSteps := 9999999) only [↓GE, PL, PP, EE, QQ, seval, w1] | (simp (disch := omega) only [IntWalk.i64_in]) | (refine go_brD (fun h => ?_) (fun h => ?_)) | (refine go_gsD aE (fun h => ?_) (fun h => ?_)) | (refine go_br (fun h => ?_) (fun h => ?_)) | (refine go_gs aE (fun h => ?_) (fun h => ?_)) | (apply go_call 5000 (awakeT) rfl rfl; iterate 4 (first | (exact CallForm.plain rfl) | exact aC)) | (apply go_call 5000 (e1) rfl rfl; iterate 4 (first | (exact CallForm.plain rfl) | exact aC)) | (apply go_call 5000 (e2) rfl rfl; iterate 4 (first | (exact CallForm.news rfl rfl) | exact aC)) | (apply go_call 5000 (e3) rfl rfl; iterate 4 (first | (exact CallForm.lent aL rfl rfl) | exact aC)) | (with_reducible apply And.intro) | exact aG | fail)
  have hll : (lim3 n).length = 2 * n := by rw [lim3_eq, List.length_replicate]
  have hlo : limOK (lim3 n) := by rw [lim3_eq]; exact lim_rep _
  obtain ⟨NT, hNT⟩ : ∃ NT : Nat, NT = 3 ^ n * 3 ^ n := ⟨_, rfl⟩
  have hNb : 1 ≤ NT ∧ NT ≤ 729 := by
    have hc : n = 1 ∨ n = 2 ∨ n = 3 := by omega
    rcases hc with rfl | rfl | rfl <;> omega
  have hpr : prodL (lim3 n) = (NT : Int) := by rw [lim3_eq, prod_rep, Nat.two_mul, Int.pow_add, hNT]; push_cast; rfl
  have hlim : dInts (lim3 n) = D.sl 1 ((List.replicate (n * 1) 3).map eI ++ (List.replicate (n * 1) 3).map eI) := by rw [lim3, dInts, List.map_append]
  have e5 := countTape (lim3 n) (by omega) hlo (by omega)
  rw [hpr] at e5
  have e5' := e5
  rw [hlim] at e5'
  have q1 : decide ((800 : Int) < (NT : Int)) = false := decide_eq_false (by omega)
  have hrl : (List.replicate (n * 1) (3 : Int)).length ≤ 3 := by rw [List.length_replicate]; omega
  generalize hrep : List.replicate (n * 1) (3 : Int) = rp at *
  repeat' (first | simp (maxSteps := 9999999) only [↓GE, PL, PP, EE, QQ, seval, q1, List.length_map, List.length_append] | (simp (disch := omega) only [IntWalk.i64_in]) | (refine go_brD (fun h => ?_) (fun h => ?_)) | (refine go_gsD aE (fun h => ?_) (fun h => ?_)) | (refine go_br (fun h => ?_) (fun h => ?_)) | (refine go_gs aE (fun h => ?_) (fun h => ?_)) | (apply go_call 5000 (e4) rfl rfl; iterate 4 (first | (exact CallForm.plain rfl) | exact aC)) | (apply go_call 5000 (e5') rfl rfl; iterate 4 (first | (exact CallForm.plain rfl) | exact aC)) | (with_reducible apply And.intro) | exact aG | fail)
  obtain ⟨x1, hx1, hx1b⟩ : ∃ x, x = nextV l (nextK l 0 3) 2 ∧ 0 ≤ x ∧ x < 2 := ⟨_, rfl, by
    unfold nextV
    split
    · omega
    · exact ⟨Int.emod_nonneg _ (by omega), Int.emod_lt_of_pos _ (by omega)⟩⟩
  have e6 := (next l hl (nextK l 0 3) 2 (by omega)).nm1 47000 0 (by omega) rfl rfl rfl rfl rfl
  rw [← hx1] at e6
  obtain ⟨who, rfl⟩ : ∃ w : Nat, x1 = (w : Int) := ⟨x1.toNat, by omega⟩
  have hwho : who < 2 := by omega
  (apply go_call 5000 e6 rfl rfl; iterate 4 (first | (exact CallForm.lent aL rfl rfl) | exact aC))
  have hm0' : (0 : Int) ≤ (NT : Int) := by omega
  repeat' (first | simp (maxSteps := 9999999) only [↓GE, PL, PP, EE, QQ, seval, q1, Int.toNat_natCast] | (simp (disch := omega) only [IntWalk.i64_in]) | (refine go_brD (fun h => ?_) (fun h => ?_)) | (refine go_gsD aE (fun h => ?_) (fun h => ?_)) | (refine go_br (fun h => ?_) (fun h => ?_)) | (refine go_gs aE (fun h => ?_) (fun h => ?_)) | (with_reducible apply And.intro) | exact aG | fail)
  subst hrep
  clear e1 e2 e3 e4 e6 e5'
  obtain ⟨ia, hia, ra⟩ := rem_ok ha hn
  obtain ⟨ib, hib, rb⟩ := rem_ok hb hn
  obtain ⟨ic, hic, rc⟩ := rem_ok hc hn
  obtain ⟨ie, hie, re⟩ := rem_ok he hn
  have wa : IntKind.i64.wrap a = a := IntWalk.i64_in _ (by omega)
  have wb : IntKind.i64.wrap b = b := IntWalk.i64_in _ (by omega)
  have wc : IntKind.i64.wrap c = c := IntWalk.i64_in _ (by omega)
  have we : IntKind.i64.wrap e = e := IntWalk.i64_in _ (by omega)
  obtain ⟨bA1, bA2⟩ := viewK_bij hwho hn hn3 hia hib
  obtain ⟨bB1, bB2⟩ := viewK_bij hwho hn hn3 hic hie
  rw [← hNT] at bA1 bA2 bB1 bB2
  refine go_loopz 5000 hm0 (ι := {K : Nat // K ≤ NT}) (fun K => [(1, .d (.at (.int .u8 a))), (2, .d (.at (.int .u8 b))), (3, .d (.at (.int .u8 c))), (4, .d (.at (.int .u8 e))), (12, .bp 12 0 0), (13, .bp 13 0 0), (14, I n), (17, .d (dInts (lim3 n))), (18, I NT), (20, I who), (21, .og 80 0), (22, .og 82 0), (23, I K.1)]) (fun K => [(12, .box 0 [I 3]), (13, .box 0 [I 2, I 1]), (80, .arr 0 1 true ((cntN (viewK who n ia ib) NT K.1).map eI)), (82, .arr 0 1 true ((cntN (viewK who n ic ie) NT K.1).map eI))]) (fun K => NT - K.1) [.og 59 1] [] ⟨0, Nat.zero_le _⟩ ?_ ?_
  · simp only [GeZ]; (simp only [GeS]; refine ⟨?_, ?_, ?_, ?_⟩; all_goals (repeat' (first | (with_reducible exact True.intro) | (with_reducible rfl) | simp only [XC, ↓reduceIte, seval] | (with_reducible apply And.intro) | (refine ⟨_, rfl, ?_⟩) | (simp [cntN, List.map_replicate, eI, hlim]; done) | exact aS | fail)))
  rintro ⟨K, hK⟩
  simp only
  by_cases hKN : K < NT
  · have r1 : decide ((K : Int) < (NT : Int)) = true := decide_eq_true (by omega)
    have u1 : IntKind.i64.wrap ((K : Int) + 1) = ((K + 1 : Nat) : Int) := by rw [IntWalk.i64_in _ (by omega)]; omega
    have e7 := atTape (lim3 n) K (by omega) hlo (by omega) (by omega) (by omega)
    obtain ⟨nums, hnums⟩ : ∃ x, x = atF (lim3 n) (K : Int) := ⟨_, rfl⟩
    rw [← hnums] at e7
    have hnl : nums.length = 2 * n := by rw [hnums, atF_len, hll]
    have hnin : nums.all (inE 3) = true := by rw [hnums, lim3_eq]; exact atF_in (by decide) _ _
    have tA : TapeOK nums 0 3 (n * 1) := tapeOK_of hnin (by omega) (by omega)
    have tB : TapeOK nums n 3 (n * 1) := tapeOK_of hnin (by omega) (by omega)
    obtain ⟨vA, hvAd⟩ : ∃ x, x = viewK who n ia ib K := ⟨_, rfl⟩
    obtain ⟨vB, hvBd⟩ : ∃ x, x = viewK who n ic ie K := ⟨_, rfl⟩
    have hvA : vA = vwL 3 (vwL 3 0 (viewQ 3 who n ia nums 0)) (viewQ 3 who n ib nums n) := by rw [hvAd, hnums]; rfl
    have hvB : vB = vwL 3 (vwL 3 0 (viewQ 3 who n ic nums 0)) (viewQ 3 who n ie nums n) := by rw [hvBd, hnums]; rfl
    have bA := bA2 K hKN
    have bB := bB2 K hKN
    rw [← hvAd] at bA
    rw [← hvBd] at bB
    obtain ⟨CA0, hCA⟩ : ∃ x, x = cntN (viewK who n ia ib) NT K := ⟨_, rfl⟩
    obtain ⟨CB0, hCB⟩ : ∃ x, x = cntN (viewK who n ic ie) NT K := ⟨_, rfl⟩
    have hlA : CA0.length = NT := by rw [hCA]; exact cntN_len
    have hlB : CB0.length = NT := by rw [hCB]; exact cntN_len
    have hleCA0 : ∀ v, 0 ≤ CA0.getD v 0 ∧ CA0.getD v 0 ≤ (K : Int) := fun v => by rw [hCA]; exact cntN_le
    have hleCB0 : ∀ v, 0 ≤ CB0.getD v 0 ∧ CB0.getD v 0 ≤ (K : Int) := fun v => by rw [hCB]; exact cntN_le
    obtain ⟨CA1, hCA1⟩ : ∃ x, x = CA0.set vA.toNat (CA0.getD vA.toNat 0 + 1) := ⟨_, rfl⟩
    obtain ⟨CB1, hCB1⟩ : ∃ x, x = CB0.set vB.toNat (CB0.getD vB.toNat 0 + 1) := ⟨_, rfl⟩
    have hCAn : cntN (viewK who n ia ib) NT (K + 1) = CA1 := by rw [cntN, ← hCA, ← hvAd, ← hCA1]
    have hCBn : cntN (viewK who n ic ie) NT (K + 1) = CB1 := by rw [cntN, ← hCB, ← hvBd, ← hCB1]
    rw [← hCA, ← hCB]
    have eL := leftT nums (n + n) (by omega) (by omega)
    rw [show nums.length - (n + n) = 0 by omega] at eL
    repeat' (first | simp (maxSteps := 9999999) only [↓GE, PL, PP, EE, QQ, seval, r1] | (simp (disch := omega) only [IntWalk.i64_in]) | (refine go_brD (fun h => ?_) (fun h => ?_)) | (refine go_gsD aE (fun h => ?_) (fun h => ?_)) | (refine go_br (fun h => ?_) (fun h => ?_)) | (refine go_gs aE (fun h => ?_) (fun h => ?_)) | (apply go_call 5000 (e7) rfl rfl; iterate 4 (first | (exact CallForm.plain rfl) | exact aC)) | (with_reducible apply And.intro) | exact aG | fail)
    refine go_loopz 5000 hm0 (ι := {s : Nat // s ≤ 2}) (fun s => [(1, .d (.at (.int .u8 a))), (2, .d (.at (.int .u8 b))), (3, .d (.at (.int .u8 c))), (4, .d (.at (.int .u8 e))), (12, .bp 12 0 0), (13, .bp 13 0 0), (14, I n), (17, .d (dInts (lim3 n))), (18, I NT), (20, I who), (21, .og 80 0), (22, .og 82 0), (23, I K), (24, .bp 24 0 0), (102, .d (.sl 1 [[D.sl 1 [[D.at (Value.int IntKind.u8 a)], [D.at (Value.int IntKind.u8 b)]]], [D.sl 1 [[D.at (Value.int IntKind.u8 c)], [D.at (Value.int IntKind.u8 e)]]]])), (103, I 2), (104, I s.1)]) (fun s => [(12, .box 0 [I 3]), (13, .box 0 [I 2, I 1]), (24, .box 0 [.d (dInts nums), I 0]), (80, .arr 0 1 true ((if s.1 < 1 then CA0 else CA1).map eI)), (82, .arr 0 1 true ((if s.1 < 2 then CB0 else CB1).map eI))]) (fun s => 2 - s.1) [.og 102 0] [] ⟨0, by omega⟩ ?_ ?_
    · simp only [GeZ]; exact aH
    · rintro ⟨s, hs⟩
      have hsc : s = 0 ∨ s = 1 ∨ s = 2 := by omega
      simp only
      rcases hsc with rfl | rfl | rfl
      · simp only [show (0 : Nat) < 1 by decide, show (0 : Nat) < 2 by decide, show (1 : Nat) < 2 by decide, show ¬ ((1 : Nat) < 1) by decide, ↓reduceIte]
        have hVq1 := viewQ_len (p := 3) (who := who) (n := n) (ix := ia) (nums := nums) (at_ := 0)
        have hVq2 := viewQ_len (p := 3) (who := who) (n := n) (ix := ib) (nums := nums) (at_ := n)
        obtain ⟨QA, hA1, hA2, eA⟩ := query2 n ia who nums 0 hn hn3 hia hwho tA
        obtain ⟨QB, hB1, hB2, eB⟩ := query2 n ib who nums n hn hn3 hib hwho tB
        rw [Nat.zero_add] at eA
        have hQa := viewQ_all (ix := ia) hwho tA
        have hQb := viewQ_all (ix := ib) hwho tB
        generalize viewQ 3 who n ia nums 0 = qa at *
        generalize viewQ 3 who n ib nums n = qb at *
        have ha27 : 0 ≤ vwL 3 0 qa ∧ vwL 3 0 qa < 27 := by
          have h1 := vwL_in (b := 3) (by decide) (l := qa) (v := 0) (M := 1) hQa (by decide) (by decide)
          have h2 := pow3_le (a := qa.length) (by omega)
          omega
        repeat' (first | simp (maxSteps := 9999999) only [↓GE, PL, PP, EE, QQ, seval, List.length_map] | (simp (disch := omega) only [IntWalk.i64_in]) | (refine go_brD (fun h => ?_) (fun h => ?_)) | (refine go_gsD aE (fun h => ?_) (fun h => ?_)) | (refine go_br (fun h => ?_) (fun h => ?_)) | (refine go_gs aE (fun h => ?_) (fun h => ?_)) | (with_reducible apply And.intro) | exact aG | fail)
        refine go_loopz 5000 hm0 (ι := {r : Nat // r ≤ 2}) (fun r => [(1, .d (.at (.int .u8 a))), (2, .d (.at (.int .u8 b))), (3, .d (.at (.int .u8 c))), (4, .d (.at (.int .u8 e))), (12, .bp 12 0 0), (13, .bp 13 0 0), (14, I n), (17, .d (dInts (lim3 n))), (18, I NT), (20, I who), (21, .og 80 0), (22, .og 82 0), (23, I K), (24, .bp 24 0 0), (102, .d (.sl 1 [[D.sl 1 [[D.at (Value.int IntKind.u8 a)], [D.at (Value.int IntKind.u8 b)]]], [D.sl 1 [[D.at (Value.int IntKind.u8 c)], [D.at (Value.int IntKind.u8 e)]]]])), (103, I 2), (104, I 0), (26, I 0), (28, .bp 28 0 0), (110, .d (D.sl 1 [[D.at (Value.int IntKind.u8 a)], [D.at (Value.int IntKind.u8 b)]])), (111, I 2), (29, I (if r.1 = 0 then 0 else if r.1 = 1 then vwL 3 0 qa else vwL 3 (vwL 3 0 qa) qb)), (112, I r.1)]) (fun r => [(12, .box 0 [I 3]), (13, .box 0 [I 2, I 1]), (24, .box 0 [.d (dInts nums), I 0]), (28, .box 0 [.d (dInts nums), I (if r.1 = 0 then 0 else if r.1 = 1 then n else n + n : Nat)]), (80, .arr 0 1 true (CA0.map eI)), (82, .arr 0 1 true (CB0.map eI))]) (fun r => 2 - r.1) [] [] ⟨0, by omega⟩ ?_ ?_
        · simp only [GeZ]; exact aH
        · rintro ⟨r, hr⟩
          have hrc : r = 0 ∨ r = 1 ∨ r = 2 := by omega
          simp only
          rcases hrc with rfl | rfl | rfl
          · simp only [show ¬ ((1 : Nat) = 0) by decide, ↓reduceIte]
            have hs1 := getD_map eR [] [] QA who (by omega)
            rw [hA2] at hs1
            have hw2 : who < QA.length := by omega
            have q4 : ((QA.length : Int) != 2) = false := by rw [hA1]; rfl
            have q5 : ((qa.length : Int) != (n : Int)) = false := by rw [hVq1]; simp
            repeat' (first | simp (maxSteps := 9999999) only [↓GE, PL, PP, EE, QQ, seval, wa, ra, hs1, hw2, q4, q5, eR, List.length_map] | (simp (disch := omega) only [IntWalk.i64_in]) | (refine go_brD (fun h => ?_) (fun h => ?_)) | (refine go_gsD aE (fun h => ?_) (fun h => ?_)) | (refine go_br (fun h => ?_) (fun h => ?_)) | (refine go_gs aE (fun h => ?_) (fun h => ?_)) | (apply go_call 5000 (eA) rfl rfl; iterate 4 (first | (exact CallForm.plain rfl) | exact aC)) | (with_reducible apply And.intro) | exact aG | fail)
            refine go_loopz 5000 hm0 (ι := {j : Nat // j ≤ n}) (fun j => [(1, .d (.at (.int .u8 a))), (2, .d (.at (.int .u8 b))), (3, .d (.at (.int .u8 c))), (4, .d (.at (.int .u8 e))), (12, .bp 12 0 0), (13, .bp 13 0 0), (14, I n), (17, .d (dInts (lim3 n))), (18, I NT), (20, I who), (21, .og 80 0), (22, .og 82 0), (23, I K), (24, .bp 24 0 0), (102, .d (.sl 1 [[D.sl 1 [[D.at (Value.int IntKind.u8 a)], [D.at (Value.int IntKind.u8 b)]]], [D.sl 1 [[D.at (Value.int IntKind.u8 c)], [D.at (Value.int IntKind.u8 e)]]]])), (103, I 2), (104, I 0), (26, I 0), (28, .bp 28 0 0), (110, .d (D.sl 1 [[D.at (Value.int IntKind.u8 a)], [D.at (Value.int IntKind.u8 b)]])), (111, I 2), (29, I (vwL 3 0 (qa.take j.1))), (33, .bp 33 0 0), (112, I 0), (148, .d (dInts qa)), (149, I n), (150, I j.1)]) (fun j => [(12, .box 0 [I 3]), (13, .box 0 [I 2, I 1]), (24, .box 0 [.d (dInts nums), I 0]), (28, .box 0 [.d (dInts nums), I (0 : Nat)]), (33, .box 0 [.d (dInts nums), I (n : Nat)]), (80, .arr 0 1 true (CA0.map eI)), (82, .arr 0 1 true (CB0.map eI))]) (fun j => n - j.1) [] [] ⟨0, by omega⟩ ?_ ?_
            · simp only [GeZ]; (simp only [GeS]; refine ⟨?_, ?_, ?_, ?_⟩; all_goals (repeat' (first | (with_reducible exact True.intro) | (with_reducible rfl) | simp only [XC, ↓reduceIte, seval] | (with_reducible apply And.intro) | (refine ⟨_, rfl, ?_⟩) | (simp [vwL, hVq1]; done) | exact aS | fail)))
            · rintro ⟨j, hj⟩
              simp only
              by_cases hjn : j < n
              · have s1 : decide ((j : Int) < (n : Int)) = true := decide_eq_true (by omega)
                have u1 : IntKind.i64.wrap ((j : Int) + 1) = ((j + 1 : Nat) : Int) := by rw [IntWalk.i64_in _ (by omega)]; omega
                have hnx := vwL_next (b := 3) (v := 0) (l := qa) (j := j) (by omega)
                have hb := vw_small (v := 0) (l := qa) (j := j) hQa (by omega) (by decide) (by decide)
                have hd := all_getD hQa (i := j) (by omega)
                have hs2 := getD_map eI [] 0 qa j (by omega)
                have hjl : j < qa.length := by omega
                generalize qa.getD j 0 = d at *
                generalize vwL 3 0 (qa.take j) = v at *
                have u2 : IntKind.i64.wrap (v * 3) = v * 3 := IntWalk.i64_in _ (by omega)
                have u3 : IntKind.i64.wrap (v * 3 + d) = v * 3 + d := IntWalk.i64_in _ (by omega)
                repeat' (first | simp (maxSteps := 9999999) only [↓GE, PL, PP, EE, QQ, seval, s1, u1, u2, u3, hs2, hjl, eI, List.length_map] | (simp (disch := omega) only [IntWalk.i64_in]) | (refine go_brD (fun h => ?_) (fun h => ?_)) | (refine go_gsD aE (fun h => ?_) (fun h => ?_)) | (refine go_br (fun h => ?_) (fun h => ?_)) | (refine go_gs aE (fun h => ?_) (fun h => ?_)) | (with_reducible apply And.intro) | exact aG | fail)
                refine ⟨[], [], ⟨j + 1, hjn⟩, ?_, by simp only; omega⟩
                simp only [GeZ]; (simp only [GeS]; refine ⟨?_, ?_, ?_, ?_⟩; all_goals (repeat' (first | (with_reducible exact True.intro) | (with_reducible rfl) | simp only [XC, ↓reduceIte, seval] | (with_reducible apply And.intro) | (refine ⟨_, rfl, ?_⟩) | (simp [hnx]; done) | exact aS | fail)))
              · obtain rfl : j = n := by omega
                have s1 : decide ((j : Int) < (j : Int)) = false := decide_eq_false (by omega)
                have ht : qa.take j = qa := List.take_of_length_le (by omega)
                rw [ht]
                repeat' (first | simp (maxSteps := 9999999) only [↓GE, PL, PP, EE, QQ, seval, s1] | (simp (disch := omega) only [IntWalk.i64_in]) | (refine go_brD (fun h => ?_) (fun h => ?_)) | (refine go_gsD aE (fun h => ?_) (fun h => ?_)) | (refine go_br (fun h => ?_) (fun h => ?_)) | (refine go_gs aE (fun h => ?_) (fun h => ?_)) | (with_reducible apply And.intro) | exact aG | fail)
                refine ⟨[], [], ⟨1, by omega⟩, ?_, by simp only; omega⟩
                simp only [GeZ]; exact aH
          · simp only [show ¬ ((1 : Nat) = 0) by decide, ↓reduceIte]
            have hs1 := getD_map eR [] [] QB who (by omega)
            rw [hB2] at hs1
            have hw2 : who < QB.length := by omega
            have q4 : ((QB.length : Int) != 2) = false := by rw [hB1]; rfl
            have q5 : ((qb.length : Int) != (n : Int)) = false := by rw [hVq2]; simp
            repeat' (first | simp (maxSteps := 9999999) only [↓GE, PL, PP, EE, QQ, seval, wb, rb, hs1, hw2, q4, q5, eR, List.length_map] | (simp (disch := omega) only [IntWalk.i64_in]) | (refine go_brD (fun h => ?_) (fun h => ?_)) | (refine go_gsD aE (fun h => ?_) (fun h => ?_)) | (refine go_br (fun h => ?_) (fun h => ?_)) | (refine go_gs aE (fun h => ?_) (fun h => ?_)) | (apply go_call 5000 (eB) rfl rfl; iterate 4 (first | (exact CallForm.plain rfl) | exact aC)) | (with_reducible apply And.intro) | exact aG | fail)
            refine go_loopz 5000 hm0 (ι := {j : Nat // j ≤ n}) (fun j => [(1, .d (.at (.int .u8 a))), (2, .d (.at (.int .u8 b))), (3, .d (.at (.int .u8 c))), (4, .d (.at (.int .u8 e))), (12, .bp 12 0 0), (13, .bp 13 0 0), (14, I n), (17, .d (dInts (lim3 n))), (18, I NT), (20, I who), (21, .og 80 0), (22, .og 82 0), (23, I K), (24, .bp 24 0 0), (102, .d (.sl 1 [[D.sl 1 [[D.at (Value.int IntKind.u8 a)], [D.at (Value.int IntKind.u8 b)]]], [D.sl 1 [[D.at (Value.int IntKind.u8 c)], [D.at (Value.int IntKind.u8 e)]]]])), (103, I 2), (104, I 0), (26, I 0), (28, .bp 28 0 0), (110, .d (D.sl 1 [[D.at (Value.int IntKind.u8 a)], [D.at (Value.int IntKind.u8 b)]])), (111, I 2), (29, I (vwL 3 (vwL 3 0 qa) (qb.take j.1))), (33, .bp 33 0 0), (112, I 1), (148, .d (dInts qb)), (149, I n), (150, I j.1)]) (fun j => [(12, .box 0 [I 3]), (13, .box 0 [I 2, I 1]), (24, .box 0 [.d (dInts nums), I 0]), (28, .box 0 [.d (dInts nums), I (n : Nat)]), (33, .box 0 [.d (dInts nums), I (n + n : Nat)]), (80, .arr 0 1 true (CA0.map eI)), (82, .arr 0 1 true (CB0.map eI))]) (fun j => n - j.1) [] [] ⟨0, by omega⟩ ?_ ?_
            · simp only [GeZ]; (simp only [GeS]; refine ⟨?_, ?_, ?_, ?_⟩; all_goals (repeat' (first | (with_reducible exact True.intro) | (with_reducible rfl) | simp only [XC, ↓reduceIte, seval] | (with_reducible apply And.intro) | (refine ⟨_, rfl, ?_⟩) | (simp [vwL, hVq2]; done) | exact aS | fail)))
            · rintro ⟨j, hj⟩
              simp only
              by_cases hjn : j < n
              · have s1 : decide ((j : Int) < (n : Int)) = true := decide_eq_true (by omega)
                have u1 : IntKind.i64.wrap ((j : Int) + 1) = ((j + 1 : Nat) : Int) := by rw [IntWalk.i64_in _ (by omega)]; omega
                have hnx := vwL_next (b := 3) (v := (vwL 3 0 qa)) (l := qb) (j := j) (by omega)
                have hb := vw_small (v := (vwL 3 0 qa)) (l := qb) (j := j) hQb (by omega) ha27.1 ha27.2
                have hd := all_getD hQb (i := j) (by omega)
                have hs2 := getD_map eI [] 0 qb j (by omega)
                have hjl : j < qb.length := by omega
                generalize qb.getD j 0 = d at *
                generalize vwL 3 (vwL 3 0 qa) (qb.take j) = v at *
                have u2 : IntKind.i64.wrap (v * 3) = v * 3 := IntWalk.i64_in _ (by omega)
                have u3 : IntKind.i64.wrap (v * 3 + d) = v * 3 + d := IntWalk.i64_in _ (by omega)
                repeat' (first | simp (maxSteps := 9999999) only [↓GE, PL, PP, EE, QQ, seval, s1, u1, u2, u3, hs2, hjl, eI, List.length_map] | (simp (disch := omega) only [IntWalk.i64_in]) | (refine go_brD (fun h => ?_) (fun h => ?_)) | (refine go_gsD aE (fun h => ?_) (fun h => ?_)) | (refine go_br (fun h => ?_) (fun h => ?_)) | (refine go_gs aE (fun h => ?_) (fun h => ?_)) | (with_reducible apply And.intro) | exact aG | fail)
                refine ⟨[], [], ⟨j + 1, hjn⟩, ?_, by simp only; omega⟩
                simp only [GeZ]; (simp only [GeS]; refine ⟨?_, ?_, ?_, ?_⟩; all_goals (repeat' (first | (with_reducible exact True.intro) | (with_reducible rfl) | simp only [XC, ↓reduceIte, seval] | (with_reducible apply And.intro) | (refine ⟨_, rfl, ?_⟩) | (simp [hnx]; done) | exact aS | fail)))
              · obtain rfl : j = n := by omega
                have s1 : decide ((j : Int) < (j : Int)) = false := decide_eq_false (by omega)
                have ht : qb.take j = qb := List.take_of_length_le (by omega)
                rw [ht]
                repeat' (first | simp (maxSteps := 9999999) only [↓GE, PL, PP, EE, QQ, seval, s1] | (simp (disch := omega) only [IntWalk.i64_in]) | (refine go_brD (fun h => ?_) (fun h => ?_)) | (refine go_gsD aE (fun h => ?_) (fun h => ?_)) | (refine go_br (fun h => ?_) (fun h => ?_)) | (refine go_gs aE (fun h => ?_) (fun h => ?_)) | (with_reducible apply And.intro) | exact aG | fail)
                refine ⟨[], [], ⟨2, by omega⟩, ?_, by simp only; omega⟩
                simp only [GeZ]; exact aH
          · simp only [show ¬ ((2 : Nat) = 0) by decide, show ¬ ((2 : Nat) = 1) by decide, ↓reduceIte]
            have hvv : vA = vwL 3 (vwL 3 0 qa) qb := hvA
            rw [← hvv]
            have q6 : decide (vA < 0) = false := decide_eq_false (by omega)
            have q7 : decide ((NT : Int) ≤ vA) = false := decide_eq_false (by omega)
            have hvt : vA.toNat < CA0.length := by omega
            have hs3 := getD_map eI [] 0 CA0 vA.toNat hvt
            have hcb := hleCA0 vA.toNat
            have u4 : IntKind.i64.wrap (CA0.getD vA.toNat 0 + 1) = CA0.getD vA.toNat 0 + 1 := IntWalk.i64_in _ (by omega)
            repeat' (first | simp (maxSteps := 9999999) only [↓GE, PL, PP, EE, QQ, seval, q6, q7, hs3, hvt, u4, eI, List.length_map] | (simp (disch := omega) only [IntWalk.i64_in]) | (refine go_brD (fun h => ?_) (fun h => ?_)) | (refine go_gsD aE (fun h => ?_) (fun h => ?_)) | (refine go_br (fun h => ?_) (fun h => ?_)) | (refine go_gs aE (fun h => ?_) (fun h => ?_)) | (apply go_call 5000 (eL) rfl rfl; iterate 4 (first | (exact CallForm.plain rfl) | exact aC)) | (with_reducible apply And.intro) | exact aG | fail)
            refine ⟨[], [], ⟨1, by omega⟩, ?_, by simp only; omega⟩
            simp only [GeZ]; (simp only [GeS]; refine ⟨?_, ?_, ?_, ?_⟩; all_goals (repeat' (first | (with_reducible exact True.intro) | (with_reducible rfl) | simp only [XC, ↓reduceIte, seval] | (with_reducible apply And.intro) | (refine ⟨_, rfl, ?_⟩) | (simp [hCA1, List.map_set, eI]; done) | exact aS | fail)))
      · simp only [show (0 : Nat) < 1 by decide, show (0 : Nat) < 2 by decide, show (1 : Nat) < 2 by decide, show ¬ ((1 : Nat) < 1) by decide, ↓reduceIte]
        have hVq1 := viewQ_len (p := 3) (who := who) (n := n) (ix := ic) (nums := nums) (at_ := 0)
        have hVq2 := viewQ_len (p := 3) (who := who) (n := n) (ix := ie) (nums := nums) (at_ := n)
        obtain ⟨QA, hA1, hA2, eA⟩ := query2 n ic who nums 0 hn hn3 hic hwho tA
        obtain ⟨QB, hB1, hB2, eB⟩ := query2 n ie who nums n hn hn3 hie hwho tB
        rw [Nat.zero_add] at eA
        have hQa := viewQ_all (ix := ic) hwho tA
        have hQb := viewQ_all (ix := ie) hwho tB
        generalize viewQ 3 who n ic nums 0 = qa at *
        generalize viewQ 3 who n ie nums n = qb at *
        have ha27 : 0 ≤ vwL 3 0 qa ∧ vwL 3 0 qa < 27 := by
          have h1 := vwL_in (b := 3) (by decide) (l := qa) (v := 0) (M := 1) hQa (by decide) (by decide)
          have h2 := pow3_le (a := qa.length) (by omega)
          omega
        repeat' (first | simp (maxSteps := 9999999) only [↓GE, PL, PP, EE, QQ, seval, List.length_map] | (simp (disch := omega) only [IntWalk.i64_in]) | (refine go_brD (fun h => ?_) (fun h => ?_)) | (refine go_gsD aE (fun h => ?_) (fun h => ?_)) | (refine go_br (fun h => ?_) (fun h => ?_)) | (refine go_gs aE (fun h => ?_) (fun h => ?_)) | (with_reducible apply And.intro) | exact aG | fail)
        refine go_loopz 5000 hm0 (ι := {r : Nat // r ≤ 2}) (fun r => [(1, .d (.at (.int .u8 a))), (2, .d (.at (.int .u8 b))), (3, .d (.at (.int .u8 c))), (4, .d (.at (.int .u8 e))), (12, .bp 12 0 0), (13, .bp 13 0 0), (14, I n), (17, .d (dInts (lim3 n))), (18, I NT), (20, I who), (21, .og 80 0), (22, .og 82 0), (23, I K), (24, .bp 24 0 0), (102, .d (.sl 1 [[D.sl 1 [[D.at (Value.int IntKind.u8 a)], [D.at (Value.int IntKind.u8 b)]]], [D.sl 1 [[D.at (Value.int IntKind.u8 c)], [D.at (Value.int IntKind.u8 e)]]]])), (103, I 2), (104, I 1), (26, I 1), (28, .bp 28 0 0), (110, .d (D.sl 1 [[D.at (Value.int IntKind.u8 c)], [D.at (Value.int IntKind.u8 e)]])), (111, I 2), (29, I (if r.1 = 0 then 0 else if r.1 = 1 then vwL 3 0 qa else vwL 3 (vwL 3 0 qa) qb)), (112, I r.1)]) (fun r => [(12, .box 0 [I 3]), (13, .box 0 [I 2, I 1]), (24, .box 0 [.d (dInts nums), I 0]), (28, .box 0 [.d (dInts nums), I (if r.1 = 0 then 0 else if r.1 = 1 then n else n + n : Nat)]), (80, .arr 0 1 true (CA1.map eI)), (82, .arr 0 1 true (CB0.map eI))]) (fun r => 2 - r.1) [] [] ⟨0, by omega⟩ ?_ ?_
        · simp only [GeZ]; exact aH
        · rintro ⟨r, hr⟩
          have hrc : r = 0 ∨ r = 1 ∨ r = 2 := by omega
          simp only
          rcases hrc with rfl | rfl | rfl
          · simp only [show ¬ ((1 : Nat) = 0) by decide, ↓reduceIte]
            have hs1 := getD_map eR [] [] QA who (by omega)
            rw [hA2] at hs1
            have hw2 : who < QA.length := by omega
            have q4 : ((QA.length : Int) != 2) = false := by rw [hA1]; rfl
            have q5 : ((qa.length : Int) != (n : Int)) = false := by rw [hVq1]; simp
            repeat' (first | simp (maxSteps := 9999999) only [↓GE, PL, PP, EE, QQ, seval, wc, rc, hs1, hw2, q4, q5, eR, List.length_map] | (simp (disch := omega) only [IntWalk.i64_in]) | (refine go_brD (fun h => ?_) (fun h => ?_)) | (refine go_gsD aE (fun h => ?_) (fun h => ?_)) | (refine go_br (fun h => ?_) (fun h => ?_)) | (refine go_gs aE (fun h => ?_) (fun h => ?_)) | (apply go_call 5000 (eA) rfl rfl; iterate 4 (first | (exact CallForm.plain rfl) | exact aC)) | (with_reducible apply And.intro) | exact aG | fail)
            refine go_loopz 5000 hm0 (ι := {j : Nat // j ≤ n}) (fun j => [(1, .d (.at (.int .u8 a))), (2, .d (.at (.int .u8 b))), (3, .d (.at (.int .u8 c))), (4, .d (.at (.int .u8 e))), (12, .bp 12 0 0), (13, .bp 13 0 0), (14, I n), (17, .d (dInts (lim3 n))), (18, I NT), (20, I who), (21, .og 80 0), (22, .og 82 0), (23, I K), (24, .bp 24 0 0), (102, .d (.sl 1 [[D.sl 1 [[D.at (Value.int IntKind.u8 a)], [D.at (Value.int IntKind.u8 b)]]], [D.sl 1 [[D.at (Value.int IntKind.u8 c)], [D.at (Value.int IntKind.u8 e)]]]])), (103, I 2), (104, I 1), (26, I 1), (28, .bp 28 0 0), (110, .d (D.sl 1 [[D.at (Value.int IntKind.u8 c)], [D.at (Value.int IntKind.u8 e)]])), (111, I 2), (29, I (vwL 3 0 (qa.take j.1))), (33, .bp 33 0 0), (112, I 0), (148, .d (dInts qa)), (149, I n), (150, I j.1)]) (fun j => [(12, .box 0 [I 3]), (13, .box 0 [I 2, I 1]), (24, .box 0 [.d (dInts nums), I 0]), (28, .box 0 [.d (dInts nums), I (0 : Nat)]), (33, .box 0 [.d (dInts nums), I (n : Nat)]), (80, .arr 0 1 true (CA1.map eI)), (82, .arr 0 1 true (CB0.map eI))]) (fun j => n - j.1) [] [] ⟨0, by omega⟩ ?_ ?_
            · simp only [GeZ]; (simp only [GeS]; refine ⟨?_, ?_, ?_, ?_⟩; all_goals (repeat' (first | (with_reducible exact True.intro) | (with_reducible rfl) | simp only [XC, ↓reduceIte, seval] | (with_reducible apply And.intro) | (refine ⟨_, rfl, ?_⟩) | (simp [vwL, hVq1]; done) | exact aS | fail)))
            · rintro ⟨j, hj⟩
              simp only
              by_cases hjn : j < n
              · have s1 : decide ((j : Int) < (n : Int)) = true := decide_eq_true (by omega)
                have u1 : IntKind.i64.wrap ((j : Int) + 1) = ((j + 1 : Nat) : Int) := by rw [IntWalk.i64_in _ (by omega)]; omega
                have hnx := vwL_next (b := 3) (v := 0) (l := qa) (j := j) (by omega)
                have hb := vw_small (v := 0) (l := qa) (j := j) hQa (by omega) (by decide) (by decide)
                have hd := all_getD hQa (i := j) (by omega)
                have hs2 := getD_map eI [] 0 qa j (by omega)
                have hjl : j < qa.length := by omega
                generalize qa.getD j 0 = d at *
                generalize vwL 3 0 (qa.take j) = v at *
                have u2 : IntKind.i64.wrap (v * 3) = v * 3 := IntWalk.i64_in _ (by omega)
                have u3 : IntKind.i64.wrap (v * 3 + d) = v * 3 + d := IntWalk.i64_in _ (by omega)
                repeat' (first | simp (maxSteps := 9999999) only [↓GE, PL, PP, EE, QQ, seval, s1, u1, u2, u3, hs2, hjl, eI, List.length_map] | (simp (disch := omega) only [IntWalk.i64_in]) | (refine go_brD (fun h => ?_) (fun h => ?_)) | (refine go_gsD aE (fun h => ?_) (fun h => ?_)) | (refine go_br (fun h => ?_) (fun h => ?_)) | (refine go_gs aE (fun h => ?_) (fun h => ?_)) | (with_reducible apply And.intro) | exact aG | fail)
                refine ⟨[], [], ⟨j + 1, hjn⟩, ?_, by simp only; omega⟩
                simp only [GeZ]; (simp only [GeS]; refine ⟨?_, ?_, ?_, ?_⟩; all_goals (repeat' (first | (with_reducible exact True.intro) | (with_reducible rfl) | simp only [XC, ↓reduceIte, seval] | (with_reducible apply And.intro) | (refine ⟨_, rfl, ?_⟩) | (simp [hnx]; done) | exact aS | fail)))
              · obtain rfl : j = n := by omega
                have s1 : decide ((j : Int) < (j : Int)) = false := decide_eq_false (by omega)
                have ht : qa.take j = qa := List.take_of_length_le (by omega)
                rw [ht]
                repeat' (first | simp (maxSteps := 9999999) only [↓GE, PL, PP, EE, QQ, seval, s1] | (simp (disch := omega) only [IntWalk.i64_in]) | (refine go_brD (fun h => ?_) (fun h => ?_)) | (refine go_gsD aE (fun h => ?_) (fun h => ?_)) | (refine go_br (fun h => ?_) (fun h => ?_)) | (refine go_gs aE (fun h => ?_) (fun h => ?_)) | (with_reducible apply And.intro) | exact aG | fail)
                refine ⟨[], [], ⟨1, by omega⟩, ?_, by simp only; omega⟩
                simp only [GeZ]; exact aH
          · simp only [show ¬ ((1 : Nat) = 0) by decide, ↓reduceIte]
            have hs1 := getD_map eR [] [] QB who (by omega)
            rw [hB2] at hs1
            have hw2 : who < QB.length := by omega
            have q4 : ((QB.length : Int) != 2) = false := by rw [hB1]; rfl
            have q5 : ((qb.length : Int) != (n : Int)) = false := by rw [hVq2]; simp
            repeat' (first | simp (maxSteps := 9999999) only [↓GE, PL, PP, EE, QQ, seval, we, re, hs1, hw2, q4, q5, eR, List.length_map] | (simp (disch := omega) only [IntWalk.i64_in]) | (refine go_brD (fun h => ?_) (fun h => ?_)) | (refine go_gsD aE (fun h => ?_) (fun h => ?_)) | (refine go_br (fun h => ?_) (fun h => ?_)) | (refine go_gs aE (fun h => ?_) (fun h => ?_)) | (apply go_call 5000 (eB) rfl rfl; iterate 4 (first | (exact CallForm.plain rfl) | exact aC)) | (with_reducible apply And.intro) | exact aG | fail)
            refine go_loopz 5000 hm0 (ι := {j : Nat // j ≤ n}) (fun j => [(1, .d (.at (.int .u8 a))), (2, .d (.at (.int .u8 b))), (3, .d (.at (.int .u8 c))), (4, .d (.at (.int .u8 e))), (12, .bp 12 0 0), (13, .bp 13 0 0), (14, I n), (17, .d (dInts (lim3 n))), (18, I NT), (20, I who), (21, .og 80 0), (22, .og 82 0), (23, I K), (24, .bp 24 0 0), (102, .d (.sl 1 [[D.sl 1 [[D.at (Value.int IntKind.u8 a)], [D.at (Value.int IntKind.u8 b)]]], [D.sl 1 [[D.at (Value.int IntKind.u8 c)], [D.at (Value.int IntKind.u8 e)]]]])), (103, I 2), (104, I 1), (26, I 1), (28, .bp 28 0 0), (110, .d (D.sl 1 [[D.at (Value.int IntKind.u8 c)], [D.at (Value.int IntKind.u8 e)]])), (111, I 2), (29, I (vwL 3 (vwL 3 0 qa) (qb.take j.1))), (33, .bp 33 0 0), (112, I 1), (148, .d (dInts qb)), (149, I n), (150, I j.1)]) (fun j => [(12, .box 0 [I 3]), (13, .box 0 [I 2, I 1]), (24, .box 0 [.d (dInts nums), I 0]), (28, .box 0 [.d (dInts nums), I (n : Nat)]), (33, .box 0 [.d (dInts nums), I (n + n : Nat)]), (80, .arr 0 1 true (CA1.map eI)), (82, .arr 0 1 true (CB0.map eI))]) (fun j => n - j.1) [] [] ⟨0, by omega⟩ ?_ ?_
            · simp only [GeZ]; (simp only [GeS]; refine ⟨?_, ?_, ?_, ?_⟩; all_goals (repeat' (first | (with_reducible exact True.intro) | (with_reducible rfl) | simp only [XC, ↓reduceIte, seval] | (with_reducible apply And.intro) | (refine ⟨_, rfl, ?_⟩) | (simp [vwL, hVq2]; done) | exact aS | fail)))
            · rintro ⟨j, hj⟩
              simp only
              by_cases hjn : j < n
              · have s1 : decide ((j : Int) < (n : Int)) = true := decide_eq_true (by omega)
                have u1 : IntKind.i64.wrap ((j : Int) + 1) = ((j + 1 : Nat) : Int) := by rw [IntWalk.i64_in _ (by omega)]; omega
                have hnx := vwL_next (b := 3) (v := (vwL 3 0 qa)) (l := qb) (j := j) (by omega)
                have hb := vw_small (v := (vwL 3 0 qa)) (l := qb) (j := j) hQb (by omega) ha27.1 ha27.2
                have hd := all_getD hQb (i := j) (by omega)
                have hs2 := getD_map eI [] 0 qb j (by omega)
                have hjl : j < qb.length := by omega
                generalize qb.getD j 0 = d at *
                generalize vwL 3 (vwL 3 0 qa) (qb.take j) = v at *
                have u2 : IntKind.i64.wrap (v * 3) = v * 3 := IntWalk.i64_in _ (by omega)
                have u3 : IntKind.i64.wrap (v * 3 + d) = v * 3 + d := IntWalk.i64_in _ (by omega)
                repeat' (first | simp (maxSteps := 9999999) only [↓GE, PL, PP, EE, QQ, seval, s1, u1, u2, u3, hs2, hjl, eI, List.length_map] | (simp (disch := omega) only [IntWalk.i64_in]) | (refine go_brD (fun h => ?_) (fun h => ?_)) | (refine go_gsD aE (fun h => ?_) (fun h => ?_)) | (refine go_br (fun h => ?_) (fun h => ?_)) | (refine go_gs aE (fun h => ?_) (fun h => ?_)) | (with_reducible apply And.intro) | exact aG | fail)
                refine ⟨[], [], ⟨j + 1, hjn⟩, ?_, by simp only; omega⟩
                simp only [GeZ]; (simp only [GeS]; refine ⟨?_, ?_, ?_, ?_⟩; all_goals (repeat' (first | (with_reducible exact True.intro) | (with_reducible rfl) | simp only [XC, ↓reduceIte, seval] | (with_reducible apply And.intro) | (refine ⟨_, rfl, ?_⟩) | (simp [hnx]; done) | exact aS | fail)))
              · obtain rfl : j = n := by omega
                have s1 : decide ((j : Int) < (j : Int)) = false := decide_eq_false (by omega)
                have ht : qb.take j = qb := List.take_of_length_le (by omega)
                rw [ht]
                repeat' (first | simp (maxSteps := 9999999) only [↓GE, PL, PP, EE, QQ, seval, s1] | (simp (disch := omega) only [IntWalk.i64_in]) | (refine go_brD (fun h => ?_) (fun h => ?_)) | (refine go_gsD aE (fun h => ?_) (fun h => ?_)) | (refine go_br (fun h => ?_) (fun h => ?_)) | (refine go_gs aE (fun h => ?_) (fun h => ?_)) | (with_reducible apply And.intro) | exact aG | fail)
                refine ⟨[], [], ⟨2, by omega⟩, ?_, by simp only; omega⟩
                simp only [GeZ]; exact aH
          · simp only [show ¬ ((2 : Nat) = 0) by decide, show ¬ ((2 : Nat) = 1) by decide, ↓reduceIte]
            have hvv : vB = vwL 3 (vwL 3 0 qa) qb := hvB
            rw [← hvv]
            have q6 : decide (vB < 0) = false := decide_eq_false (by omega)
            have q7 : decide ((NT : Int) ≤ vB) = false := decide_eq_false (by omega)
            have hvt : vB.toNat < CB0.length := by omega
            have hs3 := getD_map eI [] 0 CB0 vB.toNat hvt
            have hcb := hleCB0 vB.toNat
            have u4 : IntKind.i64.wrap (CB0.getD vB.toNat 0 + 1) = CB0.getD vB.toNat 0 + 1 := IntWalk.i64_in _ (by omega)
            repeat' (first | simp (maxSteps := 9999999) only [↓GE, PL, PP, EE, QQ, seval, q6, q7, hs3, hvt, u4, eI, List.length_map] | (simp (disch := omega) only [IntWalk.i64_in]) | (refine go_brD (fun h => ?_) (fun h => ?_)) | (refine go_gsD aE (fun h => ?_) (fun h => ?_)) | (refine go_br (fun h => ?_) (fun h => ?_)) | (refine go_gs aE (fun h => ?_) (fun h => ?_)) | (apply go_call 5000 (eL) rfl rfl; iterate 4 (first | (exact CallForm.plain rfl) | exact aC)) | (with_reducible apply And.intro) | exact aG | fail)
            refine ⟨[], [], ⟨2, by omega⟩, ?_, by simp only; omega⟩
            simp only [GeZ]; (simp only [GeS]; refine ⟨?_, ?_, ?_, ?_⟩; all_goals (repeat' (first | (with_reducible exact True.intro) | (with_reducible rfl) | simp only [XC, ↓reduceIte, seval] | (with_reducible apply And.intro) | (refine ⟨_, rfl, ?_⟩) | (simp [hCB1, List.map_set, eI]; done) | exact aS | fail)))
      · simp only [show ¬ ((2 : Nat) < 1) by decide, show ¬ ((2 : Nat) < 2) by decide, ↓reduceIte]
        repeat' (first | simp (maxSteps := 9999999) only [↓GE, PL, PP, EE, QQ, seval, u1] | (simp (disch := omega) only [IntWalk.i64_in]) | (refine go_brD (fun h => ?_) (fun h => ?_)) | (refine go_gsD aE (fun h => ?_) (fun h => ?_)) | (refine go_br (fun h => ?_) (fun h => ?_)) | (refine go_gs aE (fun h => ?_) (fun h => ?_)) | (with_reducible apply And.intro) | exact aG | fail)
        refine ⟨[], [], ⟨K + 1, hKN⟩, ?_, by simp only; omega⟩
        simp only [GeZ]; (simp only [GeS]; refine ⟨?_, ?_, ?_, ?_⟩; all_goals (repeat' (first | (with_reducible exact True.intro) | (with_reducible rfl) | simp only [XC, ↓reduceIte, seval] | (with_reducible apply And.intro) | (refine ⟨_, rfl, ?_⟩) | (simp [hCAn, hCBn]; done) | exact aS | fail)))
  · obtain rfl : K = NT := by omega
    have r1 : decide ((K : Int) < (K : Int)) = false := decide_eq_false (by omega)
    rw [bA1, bB1]
    have e8 := sameI (List.replicate K 1) (List.replicate K 1) (by rw [List.length_replicate]; omega) (by rw [List.length_replicate]; omega)
    simp only [decide_true] at e8
    have hs0 := getD_map eI [] 0 (List.replicate K 1) 0 (by rw [List.length_replicate]; omega)
    have h1 : (List.replicate K (1 : Int)).getD 0 0 = 1 := by simp [List.getD_eq_getElem?_getD, List.getElem?_replicate, show 0 < K by omega]
    rw [h1] at hs0
    have hl0 : 0 < (List.replicate K (1 : Int)).length := by rw [List.length_replicate]; omega
    repeat' (first | simp (maxSteps := 9999999) only [↓GE, PL, PP, EE, QQ, seval, r1, hs0, hl0, eI, List.length_map] | (simp (disch := omega) only [IntWalk.i64_in]) | (refine go_brD (fun h => ?_) (fun h => ?_)) | (refine go_gsD aE (fun h => ?_) (fun h => ?_)) | (refine go_br (fun h => ?_) (fun h => ?_)) | (refine go_gs aE (fun h => ?_) (fun h => ?_)) | (apply go_call 5000 (e8) rfl rfl; iterate 4 (first | (exact CallForm.plain rfl) | exact aC)) | (with_reducible apply And.intro) | exact aG | fail)
    all_goals ((first | apply ret_mk [] | apply end_mk []); (· exact aR); (· exact aZ); all_goals exact aF)
end Go.Proofs.YthbhkkdaaipngaaGreatDoor.Sim
