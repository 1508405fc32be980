/- ChannelDrops: plain, and walked. -/
import Derived.Test.YtejandeehmnibaaCnD
namespace Go.Proofs.Ytejandeehmnibaa.Sim
open Go
set_option maxRecDepth 100000
set_option maxHeartbeats 8000000
set_option linter.unusedVariables false
set_option linter.unusedSimpArgs false
attribute [local irreducible] Go Mean
theorem stayN_ext {c : List PNote} {rd : Int} {n : Nat} : ∀ {d : Nat}, ∃ r, stayN c rd (n + d) = stayN c rd n ++ r
  | 0 => ⟨[], by simp⟩
  | d + 1 => by
    obtain ⟨r, hr⟩ := stayN_ext (c := c) (rd := rd) (n := n) (d := d)
    rw [show n + (d + 1) = n + d + 1 by omega, stayN]
    split
    · exact ⟨r, hr⟩
    · exact ⟨r ++ [c.getD (n + d) noNote], by rw [hr, List.append_assoc]⟩
theorem stay_at {c : List PNote} {rd : Int} {i : Nat} (hi : i < c.length) (hd : delR rd (c.getD i noNote) = false) : (stayN c rd i).length < (stayN c rd c.length).length ∧ (stayN c rd c.length).getD (stayN c rd i).length noNote = c.getD i noNote := by
  obtain ⟨r, hr⟩ := stayN_ext (c := c) (rd := rd) (n := i + 1) (d := c.length - (i + 1))
  rw [show i + 1 + (c.length - (i + 1)) = c.length by omega] at hr
  have h1 : stayN c rd (i + 1) = stayN c rd i ++ [c.getD i noNote] := by rw [stayN, hd, if_neg (by simp)]
  rw [hr, h1]
  refine ⟨by simp, ?_⟩
  rw [List.getD_eq_getElem?_getD, List.append_assoc, List.getElem?_append_right (Nat.le_refl _)]
  simp
theorem stayN_okNs {c : List PNote} {rd : Int} (h : okNs c) : ∀ {n : Nat}, n ≤ c.length → ∀ x ∈ stayN c rd n, okN x
  | 0, _, x, hx => by simp [stayN] at hx
  | n + 1, hn, x, hx => by
    rw [stayN] at hx
    split at hx
    · exact stayN_okNs h (by omega) x hx
    · rcases List.mem_append.1 hx with hx | hx
      · exact stayN_okNs h (by omega) x hx
      · simp only [List.mem_singleton] at hx
        subst hx
        exact h.get (by omega)
theorem betw_sum {c : List PNote} : ∀ {n : Nat}, n ≤ c.length → (∀ x ∈ c, 1 ≤ x.server ∧ x.server ≤ 3) → (betwN c 1 n).length + (betwN c 2 n).length + (betwN c 3 n).length = n
  | 0, _, _ => rfl
  | n + 1, hn, h => by
    have ih := betw_sum (c := c) (n := n) (by omega) h
    have hx := h _ (mem_getD noNote c n (by omega))
    simp only [betwN]
    generalize c.getD n noNote = x at *
    have : x.server = 1 ∨ x.server = 2 ∨ x.server = 3 := by omega
    rcases this with e | e | e <;> rw [e] <;> simp <;> omega
theorem noteG_srv (l : List UInt8) (k : Nat) : 1 ≤ (noteG l k).1.server ∧ (noteG l k).1.server ≤ 3 := by
  have a := pickV_in l (pickK l (pickK l (pickK l k))) 3 (by omega)
  simp only [noteG]
  omega
theorem notesG_srv {l : List UInt8} {k : Nat} : ∀ {n : Nat}, ∀ x ∈ (notesG l k n).1, 1 ≤ x.server ∧ x.server ≤ 3
  | 0, x, h => by simp [notesG] at h
  | n + 1, x, h => by
    rw [notesG] at h
    rcases List.mem_append.1 h with h | h
    · exact notesG_srv x h
    · simp only [List.mem_singleton] at h
      rw [h]; exact noteG_srv _ _
def sumB (c : List PNote) : Nat → Nat
  | 0 => 0
  | n + 1 => sumB c n + (betwN c ((n + 1 : Nat) : Int) c.length).length
theorem lawDrops (s : List UInt8) (hs : s.length ≤ 140737488355328) : Does Try.prog 3 [.d (dBytes s)] [] (B true) [] [] := by
  refine go_law31_ChannelDrops rfl BxOK.nil fun cx hm0 => go_in 5000 ?_
  unfold ac_law31_ChannelDrops rs_law31_ChannelDrops
  generalize hL : s.take 300 = l
  have hl : l.length ≤ 140737488355328 := by rw [← hL, List.length_take]; omega
  have e0 := dice s hs
  rw [hL] at e0
  have d1 := (made l hl 0).nm1 19000 0 (by omega) rfl rfl rfl rfl rfl
  have ⟨okc, lc⟩ := madeG_ok l 0
  have srv : ∀ x ∈ (madeG l 0).1, 1 ≤ x.server ∧ x.server ≤ 3 := notesG_srv
  generalize (madeG l 0).2 = k1 at *
  generalize (madeG l 0).1 = c at *
  have d2 := (pick l hl k1 3 (by omega)).nm1 19000 0 (by omega) rfl rfl rfl rfl rfl
  generalize pickV l k1 3 = rd at *
  generalize pickK l k1 = k2 at *
  have e1 := cdrop c rd okc
  have hat := fun i (hi : i < c.length) (hd : delR rd (c.getD i noNote) = false) => stay_at hi hd
  have hKok := stayN_okNs (rd := rd) okc (Nat.le_refl _)
  have hsum := betw_sum (Nat.le_refl _) srv
  have hKe : (stayN c rd c.length).length = (stayN c rd c.length).length := rfl
  repeat' (first | simp (maxSteps := 9999999) only [↓GE, PL, PP, EE, QQ, seval, List.length_map] | (simp (disch := omega) only [IntWalk.i64_in]) | (refine go_brD (fun h => ?_) (fun h => ?_)) | (refine go_gsD (by ((try simp only [EE, QQ, seval]) <;> rfl)) (fun h => ?_) (fun h => ?_)) | (refine go_br (fun h => ?_) (fun h => ?_)) | (refine go_gs (by ((try simp only [EE, QQ, seval]) <;> rfl)) (fun h => ?_) (fun h => ?_)) | (apply go_call 5000 (sane31) rfl rfl; (· ((try simp only [CC, LL, NM, EE, QQ, seval]) <;> (first | rfl | ((repeat constructor); done)))); (· exact CallForm.plain rfl); (· ((try simp only [CC, LL, NM, EE, QQ, seval]) <;> (first | rfl | ((repeat constructor); done)))); (· ((try simp only [CC, LL, NM, EE, QQ, seval]) <;> (first | rfl | ((repeat constructor); done))))) | (apply go_call 5000 (e0) rfl rfl; (· ((try simp only [CC, LL, NM, EE, QQ, seval]) <;> (first | rfl | ((repeat constructor); done)))); (· exact CallForm.news rfl rfl); (· ((try simp only [CC, LL, NM, EE, QQ, seval]) <;> (first | rfl | ((repeat constructor); done)))); (· ((try simp only [CC, LL, NM, EE, QQ, seval]) <;> (first | rfl | ((repeat constructor); done))))) | (apply go_call 5000 (d1) rfl rfl; (· ((try simp only [CC, LL, NM, EE, QQ, seval]) <;> (first | rfl | ((repeat constructor); done)))); (· exact CallForm.lent (by (try simp only [CC, LL, NM, EE, QQ, seval]); repeat' (first | trivial | (with_reducible rfl) | omega | (with_reducible apply And.intro) | rfl)) rfl rfl); (· ((try simp only [CC, LL, NM, EE, QQ, seval]) <;> (first | rfl | ((repeat constructor); done)))); (· ((try simp only [CC, LL, NM, EE, QQ, seval]) <;> (first | rfl | ((repeat constructor); done))))) | (apply go_call 5000 (d2) rfl rfl; (· ((try simp only [CC, LL, NM, EE, QQ, seval]) <;> (first | rfl | ((repeat constructor); done)))); (· exact CallForm.lent (by (try simp only [CC, LL, NM, EE, QQ, seval]); repeat' (first | trivial | (with_reducible rfl) | omega | (with_reducible apply And.intro) | rfl)) rfl rfl); (· ((try simp only [CC, LL, NM, EE, QQ, seval]) <;> (first | rfl | ((repeat constructor); done)))); (· ((try simp only [CC, LL, NM, EE, QQ, seval]) <;> (first | rfl | ((repeat constructor); done))))) | (apply go_call 5000 (e1) rfl rfl; (· ((try simp only [CC, LL, NM, EE, QQ, seval]) <;> (first | rfl | ((repeat constructor); done)))); (· exact CallForm.plain rfl); (· ((try simp only [CC, LL, NM, EE, QQ, seval]) <;> (first | rfl | ((repeat constructor); done)))); (· ((try simp only [CC, LL, NM, EE, QQ, seval]) <;> (first | rfl | ((repeat constructor); done))))) | (with_reducible apply And.intro) | (with_reducible exact trivial) | omega | (simp only [List.length_map, List.length_cons, List.length_nil] at *; omega) | (show _ = true; first | rfl | kernel_rfl))
  refine go_loop 5000 hm0 (ι := {i : Nat // i ≤ c.length}) (fun i => [(4, .bp 4 0 0), (5, I rd), (6, .bp 6 0 0), (7, I (stayN c rd i.1).length), (26, .d (dNotes c)), (27, I c.length), (28, I i.1)]) (fun i => [(4, .box 0 [.d (dNotes c)]), (6, .box 0 [.d (dNotes (stayN c rd c.length))])]) (fun i => c.length - i.1) [] ⟨0, Nat.zero_le _⟩ ?_ ?_
  · (simp only [GeS]; refine ⟨?_, ?_, ?_, ?_⟩; all_goals (repeat' (first | trivial | (with_reducible rfl) | simp only [CC, LL, EE, QQ, seval] | (with_reducible apply And.intro) | rfl | (refine ⟨_, rfl, ?_⟩) | (simp [stayN]; done) | omega)))
  · rintro ⟨i, hi⟩
    simp only
    by_cases hil : i < c.length
    · have hs1 := getD_map eNote [] noNote c i hil
      have hN : stayN c rd (i + 1) = if delR rd (c.getD i noNote) = true then stayN c rd i else stayN c rd i ++ [c.getD i noNote] := rfl
      have hok := okc.get hil
      have ha := hat i hil
      cases hd : delR rd (c.getD i noNote) with
      | true =>
        rw [hd, if_pos rfl] at hN
        unfold delR at hd
        clear ha
        generalize c.getD i noNote = t at *
        repeat' (first | simp (maxSteps := 9999999) only [↓GE, PL, PP, EE, QQ, seval, hs1, hil, hd, eNote, List.length_map] | (simp (disch := omega) only [IntWalk.i64_in]) | (refine go_brD (fun h => ?_) (fun h => ?_)) | (refine go_gsD (by ((try simp only [EE, QQ, seval]) <;> rfl)) (fun h => ?_) (fun h => ?_)) | (refine go_br (fun h => ?_) (fun h => ?_)) | (refine go_gs (by ((try simp only [EE, QQ, seval]) <;> rfl)) (fun h => ?_) (fun h => ?_)) | (with_reducible apply And.intro) | (with_reducible exact trivial) | omega | (simp only [List.length_map, List.length_cons, List.length_nil] at *; omega) | (show _ = true; first | rfl | kernel_rfl))
        refine ⟨⟨i + 1, hil⟩, ?_, by simp only; omega⟩
        (simp only [GeS]; refine ⟨?_, ?_, ?_, ?_⟩; all_goals (repeat' (first | trivial | (with_reducible rfl) | simp only [CC, LL, EE, QQ, seval] | (with_reducible apply And.intro) | rfl | (refine ⟨_, rfl, ?_⟩) | (simp [hN]; done) | omega)))
      | false =>
        rw [hd, if_neg (by simp)] at hN
        obtain ⟨ha1, ha2⟩ := ha hd
        unfold delR at hd
        have hNl : ((stayN c rd (i + 1)).length : Int) = (stayN c rd i).length + 1 := by rw [hN, List.length_append]; simp
        have hs2 := getD_map eNote [] noNote (stayN c rd c.length) (stayN c rd i).length ha1
        rw [ha2] at hs2
        have hlen := stayN_len (c := c) (rd := rd) (n := i)
        have q : decide (((stayN c rd i).length : Int) ≥ ((stayN c rd c.length).length : Int)) = false := decide_eq_false (by omega)
        have w : IntKind.i64.wrap (((stayN c rd i).length : Int) + 1) = ((stayN c rd i).length : Int) + 1 := IntWalk.i64_in _ (by omega)
        have e2 := sameNote (c.getD i noNote) (c.getD i noNote) hok hok
        rw [decide_eq_true rfl] at e2
        clear ha2 hN
        generalize c.getD i noNote = t at *
        repeat' (first | simp (maxSteps := 9999999) only [↓GE, PL, PP, EE, QQ, seval, hs1, hs2, hil, ha1, hd, q, w, eNote, List.length_map] | (simp (disch := omega) only [IntWalk.i64_in]) | (refine go_brD (fun h => ?_) (fun h => ?_)) | (refine go_gsD (by ((try simp only [EE, QQ, seval]) <;> rfl)) (fun h => ?_) (fun h => ?_)) | (refine go_br (fun h => ?_) (fun h => ?_)) | (refine go_gs (by ((try simp only [EE, QQ, seval]) <;> rfl)) (fun h => ?_) (fun h => ?_)) | (apply go_call 5000 (e2) rfl rfl; (· ((try simp only [CC, LL, NM, EE, QQ, seval]) <;> (first | rfl | ((repeat constructor); done)))); (· exact CallForm.plain rfl); (· ((try simp only [CC, LL, NM, EE, QQ, seval]) <;> (first | rfl | ((repeat constructor); done)))); (· ((try simp only [CC, LL, NM, EE, QQ, seval]) <;> (first | rfl | ((repeat constructor); done))))) | (with_reducible apply And.intro) | (with_reducible exact trivial) | omega | (simp only [List.length_map, List.length_cons, List.length_nil] at *; omega) | (show _ = true; first | rfl | kernel_rfl))
        refine ⟨⟨i + 1, hil⟩, ?_, by simp only; omega⟩
        (simp only [GeS]; refine ⟨?_, ?_, ?_, ?_⟩; all_goals (repeat' (first | trivial | (with_reducible rfl) | simp only [CC, LL, EE, QQ, seval] | (with_reducible apply And.intro) | rfl | (refine ⟨_, rfl, ?_⟩) | (simp [hNl]; done) | omega)))
    · obtain rfl : i = c.length := by omega
      clear hat hil
      generalize stayN c rd c.length = K at *
      repeat' (first | simp (maxSteps := 9999999) only [↓GE, PL, PP, EE, QQ, seval, List.length_map] | (simp (disch := omega) only [IntWalk.i64_in]) | (refine go_brD (fun h => ?_) (fun h => ?_)) | (refine go_gsD (by ((try simp only [EE, QQ, seval]) <;> rfl)) (fun h => ?_) (fun h => ?_)) | (refine go_br (fun h => ?_) (fun h => ?_)) | (refine go_gs (by ((try simp only [EE, QQ, seval]) <;> rfl)) (fun h => ?_) (fun h => ?_)) | (with_reducible apply And.intro) | (with_reducible exact trivial) | omega | (simp only [List.length_map, List.length_cons, List.length_nil] at *; omega) | (show _ = true; first | rfl | kernel_rfl))
      refine go_loop 5000 hm0 (ι := {n : Nat // n ≤ 3}) (fun i => [(4, .bp 4 0 0), (6, .bp 6 0 0), (7, I K.length), (10, I (sumB c i.1)), (11, I ((i.1 + 1 : Nat) : Int))]) (fun i => [(4, .box 0 [.d (dNotes c)]), (6, .box 0 [.d (dNotes K)])]) (fun i => 3 - i.1) [] ⟨0, by omega⟩ ?_ ?_
      · (simp only [GeS]; refine ⟨?_, ?_, ?_, ?_⟩; all_goals (repeat' (first | trivial | (with_reducible rfl) | simp only [CC, LL, EE, QQ, seval] | (with_reducible apply And.intro) | rfl | (refine ⟨_, rfl, ?_⟩) | (simp [sumB]; done) | omega)))
      · rintro ⟨n, hn⟩
        simp only
        by_cases hn3 : n < 3
        · have q : decide (((n + 1 : Nat) : Int) ≤ 3) = true := decide_eq_true (by omega)
          have e3 := cbetween c ((n + 1 : Nat) : Int) okc
          have hB := fun x (hx : x ∈ betwN c ((n + 1 : Nat) : Int) c.length) => betwN_mem hx
          have hBl := betwN_len (c := c) (sv := ((n + 1 : Nat) : Int)) (n := c.length)
          have hS : sumB c (n + 1) = sumB c n + (betwN c ((n + 1 : Nat) : Int) c.length).length := rfl
          have hSn : sumB c n ≤ 3 * c.length := by
            have : ∀ m, sumB c m ≤ m * c.length := by
              intro m
              induction m with
              | zero => simp [sumB]
              | succ m ih =>
                have := betwN_len (c := c) (sv := ((m + 1 : Nat) : Int)) (n := c.length)
                rw [sumB, Nat.add_mul]; omega
            exact Nat.le_trans (this n) (Nat.mul_le_mul_right _ (by omega))
          have hcl := okc.1
          have w2 : IntKind.i64.wrap (((n + 1 : Nat) : Int) + 1) = ((n + 1 + 1 : Nat) : Int) := by rw [show ((n + 1 : Nat) : Int) + 1 = ((n + 1 + 1 : Nat) : Int) by omega]; exact IntWalk.i64_in _ (by omega)
          generalize betwN c ((n + 1 : Nat) : Int) c.length = bl at *
          repeat' (first | simp (maxSteps := 9999999) only [↓GE, PL, PP, EE, QQ, seval, q, List.length_map] | (simp (disch := omega) only [IntWalk.i64_in]) | (refine go_brD (fun h => ?_) (fun h => ?_)) | (refine go_gsD (by ((try simp only [EE, QQ, seval]) <;> rfl)) (fun h => ?_) (fun h => ?_)) | (refine go_br (fun h => ?_) (fun h => ?_)) | (refine go_gs (by ((try simp only [EE, QQ, seval]) <;> rfl)) (fun h => ?_) (fun h => ?_)) | (apply go_call 5000 (e3) rfl rfl; (· ((try simp only [CC, LL, NM, EE, QQ, seval]) <;> (first | rfl | ((repeat constructor); done)))); (· exact CallForm.plain rfl); (· ((try simp only [CC, LL, NM, EE, QQ, seval]) <;> (first | rfl | ((repeat constructor); done)))); (· ((try simp only [CC, LL, NM, EE, QQ, seval]) <;> (first | rfl | ((repeat constructor); done))))) | (with_reducible apply And.intro) | (with_reducible exact trivial) | omega | (simp only [List.length_map, List.length_cons, List.length_nil] at *; omega) | (show _ = true; first | rfl | kernel_rfl))
          refine go_loop 5000 hm0 (ι := {i : Nat // i ≤ bl.length}) (fun i => [(4, .bp 4 0 0), (6, .bp 6 0 0), (7, I K.length), (10, I ((sumB c n + i.1 : Nat) : Int)), (11, I ((n + 1 : Nat) : Int)), (60, .d (dInts bl)), (61, I bl.length), (62, I i.1)]) (fun i => [(4, .box 0 [.d (dNotes c)]), (6, .box 0 [.d (dNotes K)])]) (fun i => bl.length - i.1) [] ⟨0, Nat.zero_le _⟩ ?_ ?_
          · (simp only [GeS]; refine ⟨?_, ?_, ?_, ?_⟩; all_goals (repeat' (first | trivial | (with_reducible rfl) | simp only [CC, LL, EE, QQ, seval] | (with_reducible apply And.intro) | rfl | (refine ⟨_, rfl, ?_⟩) | (simp; done) | omega)))
          · rintro ⟨i, hi⟩
            simp only
            by_cases hib : i < bl.length
            · have hs1 := getD_map eI [] 0 bl i hib
              obtain ⟨m, hm1, hm2, hm3⟩ := hB _ (mem_getD 0 bl i hib)
              rw [hm1] at hs1
              have hs2 := getD_map eNote [] noNote c m hm2
              have q1 : decide ((m : Int) < 0) = false := decide_eq_false (by omega)
              have q2 : decide ((m : Int) ≥ (c.length : Int)) = false := decide_eq_false (by omega)
              have q3 : ((c.getD m noNote).server != ((n + 1 : Nat) : Int)) = false := by rw [hm3]; simp
              have w3 : IntKind.i64.wrap (((sumB c n + i : Nat) : Int) + 1) = ((sumB c n + (i + 1) : Nat) : Int) := by rw [show ((sumB c n + i : Nat) : Int) + 1 = ((sumB c n + (i + 1) : Nat) : Int) by omega]; exact IntWalk.i64_in _ (by omega)
              clear hB hm1 hm3
              generalize c.getD m noNote = t at *
              repeat' (first | simp (maxSteps := 9999999) only [↓GE, PL, PP, EE, QQ, seval, hs1, hs2, hib, hm2, q1, q2, q3, w3, eI, eNote, List.length_map] | (simp (disch := omega) only [IntWalk.i64_in]) | (refine go_brD (fun h => ?_) (fun h => ?_)) | (refine go_gsD (by ((try simp only [EE, QQ, seval]) <;> rfl)) (fun h => ?_) (fun h => ?_)) | (refine go_br (fun h => ?_) (fun h => ?_)) | (refine go_gs (by ((try simp only [EE, QQ, seval]) <;> rfl)) (fun h => ?_) (fun h => ?_)) | (with_reducible apply And.intro) | (with_reducible exact trivial) | omega | (simp only [List.length_map, List.length_cons, List.length_nil] at *; omega) | (show _ = true; first | rfl | kernel_rfl))
              refine ⟨⟨i + 1, hib⟩, ?_, by simp only; omega⟩
              (simp only [GeS]; refine ⟨?_, ?_, ?_, ?_⟩; all_goals (repeat' (first | trivial | (with_reducible rfl) | simp only [CC, LL, EE, QQ, seval] | (with_reducible apply And.intro) | rfl | (refine ⟨_, rfl, ?_⟩) | (simp; done) | omega)))
            · obtain rfl : i = bl.length := by omega
              repeat' (first | simp (maxSteps := 9999999) only [↓GE, PL, PP, EE, QQ, seval, w2] | (simp (disch := omega) only [IntWalk.i64_in]) | (refine go_brD (fun h => ?_) (fun h => ?_)) | (refine go_gsD (by ((try simp only [EE, QQ, seval]) <;> rfl)) (fun h => ?_) (fun h => ?_)) | (refine go_br (fun h => ?_) (fun h => ?_)) | (refine go_gs (by ((try simp only [EE, QQ, seval]) <;> rfl)) (fun h => ?_) (fun h => ?_)) | (with_reducible apply And.intro) | (with_reducible exact trivial) | omega | (simp only [List.length_map, List.length_cons, List.length_nil] at *; omega) | (show _ = true; first | rfl | kernel_rfl))
              refine ⟨⟨n + 1, by omega⟩, ?_, by simp only; omega⟩
              (simp only [GeS]; refine ⟨?_, ?_, ?_, ?_⟩; all_goals (repeat' (first | trivial | (with_reducible rfl) | simp only [CC, LL, EE, QQ, seval] | (with_reducible apply And.intro) | rfl | (refine ⟨_, rfl, ?_⟩) | (simp [hS]; done) | omega)))
        · obtain rfl : n = 3 := by omega
          have q : decide (((3 + 1 : Nat) : Int) ≤ 3) = false := by decide
          have hS : sumB c 3 = c.length := by
            have h1 : sumB c 3 = (betwN c 1 c.length).length + (betwN c 2 c.length).length + (betwN c 3 c.length).length := by
              show 0 + (betwN c ((0 + 1 : Nat) : Int) c.length).length + (betwN c ((1 + 1 : Nat) : Int) c.length).length + (betwN c ((2 + 1 : Nat) : Int) c.length).length = _
              simp
            rw [h1, hsum]
          rw [hS]
          repeat' (first | simp (maxSteps := 9999999) only [↓GE, PL, PP, EE, QQ, seval, q, List.length_map] | (simp (disch := omega) only [IntWalk.i64_in]) | (refine go_brD (fun h => ?_) (fun h => ?_)) | (refine go_gsD (by ((try simp only [EE, QQ, seval]) <;> rfl)) (fun h => ?_) (fun h => ?_)) | (refine go_br (fun h => ?_) (fun h => ?_)) | (refine go_gs (by ((try simp only [EE, QQ, seval]) <;> rfl)) (fun h => ?_) (fun h => ?_)) | (with_reducible apply And.intro) | (with_reducible exact trivial) | omega | (simp only [List.length_map, List.length_cons, List.length_nil] at *; omega) | (show _ = true; first | rfl | kernel_rfl))
          all_goals ((first | apply ret_mk [] | apply end_mk []); (· ((try simp only [CC, LL, EE, QQ, seval]) <;> rfl)); (· ((try simp only [CC, LL, EE, QQ, seval]) <;> repeat' (first | (with_reducible apply And.intro) | rfl | trivial | (exact ⟨_, rfl⟩) | (exact ⟨_, _, _, rfl⟩) | (simp [*, ]; done) | (simp [*, ]; omega) | (simp_all []; done) | (simp_all []; omega)))); all_goals (first | trivial | decide | ((try simp only [CC, LL, EE, QQ, seval]) <;> repeat' (first | (with_reducible apply And.intro) | (exact ⟨_, rfl, rfl, rfl⟩) | (exact ⟨_, _, _, rfl⟩) | (exact ⟨_, rfl⟩) | trivial | rfl | (simp; done)))))
end Go.Proofs.Ytejandeehmnibaa.Sim
