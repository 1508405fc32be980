/- ChannelFull, walked. -/
import Derived.Test.YtihhncejiahdcabSane
namespace Go.Proofs.Ytihhncejiahdcab
open Go Go.RowKit Go.Deep
set_option linter.unusedVariables false
set_option linter.unusedSimpArgs false

set_option maxHeartbeats 1000000 in
theorem chSend_no (v u : Value) (l m : List Note) (S : Nat → Prop) (w : World) (h : Lst w S v l) (k : Lst w S u m) (hs : SmallAll l) (hl : l.length ≤ 1000000) (hm : m.length ≤ 1000000) (hlen : 256 < l.length + m.length) :
    Calls Try.prog 9 #[.agg #[v], u] w fun e w' => ∃ v', e = .returned (.tuple #[.agg #[v'], .int .i64 4]) ∧ OwnT w' w.heap.size (fun b => w.heap.size ≤ b) v' l ∧ Below w.heap.size w w' := by
  obtain ⟨a, cap, rfl, hlc, hcm⟩ := h.form
  obtain ⟨a2, cap2, rfl, hlc2, hcm2⟩ := k.form
  have h0 := ((St.start w).alloc [.slice a l.length cap] 25).alloc [.slice none 0 0] 25
  have hq : decide ((256 : Int) < (l.length : Int) + (m.length : Int)) = true := decide_eq_true (by omega)
  have hown := chown_any (.slice a l.length cap) l S _ (h0.lst h) hs hl
  simp only [World.size_alloc] at h0
  have HOWN := Lib.hid hown
  have H0 := Lib.hid h0
  clear h k hown h0 hs
  go_enter Try.func9, Try.ntmps9
  go_wp2_with fail
  refine HOWN.out.mono ?_
  rintro e w1 ⟨v1, rfl, ho1, hb1⟩
  obtain ⟨a1, c1, rfl, _⟩ := ho1.form
  have h1 := H0.out.call hb1
  have hz1 := hb1.size
  simp only [World.size_alloc] at hz1
  have hc := h1.loc
  simp only [Loc, Cel, zeroCells, Note.cells, upd, List.modify_succ_cons, List.modify_zero_cons, List.set_cons_zero, List.set_cons_succ, List.not_mem_nil, List.mem_cons, Nat.reduceAdd, Nat.zero_add, or_false, forall_eq_or_imp, forall_eq, false_implies, implies_true, and_true, true_and] at hc
  have HO1 := Lib.hid ho1
  have H1 := Lib.hid h1
  clear ho1 hb1 h1
  go_wp2_with fail
  have h2 := (H1.out.set (j := 0) (i := 0) rfl (by simp) (.slice a1 l.length c1)).alloc [.slice a1 l.length c1] 25
  have hc := h2.loc
  simp only [Loc, Cel, zeroCells, Note.cells, upd, List.modify_succ_cons, List.modify_zero_cons, List.set_cons_zero, List.set_cons_succ, List.not_mem_nil, List.mem_cons, Nat.reduceAdd, Nat.zero_add, or_false, forall_eq_or_imp, forall_eq, false_implies, implies_true, and_true, true_and] at hc
  refine bodyPost_ret (v := .tuple #[.agg #[.slice a1 l.length c1], .int .i64 4]) (by simp [results, Try.results9, go_sem, *]) rfl ?_
  refine ⟨_, rfl, ?_, h2.below⟩
  have hf := (OwnT.far_lt HO1.out (p := ⟨w.heap.size + 1, 0, none⟩) (by simp) (by simp) (.slice a1 l.length c1)).alloc (.cells #[.slice a1 l.length c1] 25)
  exact (hf.mono (by simp; omega)).weaken fun b hb => by simp at hb; omega

theorem small_zero (n : Nat) : SmallAll (List.replicate n Note.zero) := fun x hx => by
  rw [List.eq_of_mem_replicate hx]
  exact ⟨by simp [Note.zero], by simp [Note.zero]⟩

set_option maxHeartbeats 1000000 in
theorem full_walk (w : World) (n : Int) (n0 : 0 ≤ n) (n1 : n ≤ 255) : Calls Try.prog 3 #[.int .u8 n] w (IsTrue w) := by
  obtain ⟨m, rfl⟩ := Int.eq_ofNat_of_zero_le n0
  obtain ⟨i0, hi, hz0, hz1, hz2⟩ := info_parts infoNote
  have hmk : ∀ w : World, (Instr.makeSlice 23 (.int .i64 255) (.int .i64 255)).run Try.prog w = .ok (.slice (some ⟨w.heap.size, 0, none⟩) 255 255) (w.alloc (.cells (madeCells zeroCells.toArray (255 * 8)) 36)) := run_make_cells (P := Try.prog) 23 36 i0 _ zeroCells.toArray 8 96 Try.underlying23 hi hz0 rfl hz1 hz2 255 (by decide) (by decide)
  have hmk2 : ∀ w : World, (Instr.makeSlice 23 (.int .i64 ((m : Int) % 3)) (.int .i64 ((m : Int) % 3))).run Try.prog w = .ok (.slice (some ⟨w.heap.size, 0, none⟩) (m % 3) (m % 3)) (w.alloc (.cells (madeCells zeroCells.toArray ((m % 3) * 8)) 36)) := run_make_cells (P := Try.prog) 23 36 i0 _ zeroCells.toArray 8 96 Try.underlying23 hi hz0 rfl hz1 hz2 (m % 3) (by omega) (by omega)
  clear hi hz0 hz1 hz2
  have hmade : ∀ (w2 : World) (L : List (Nat × List Value)) (W : World), St w2 L W → Lst (W.alloc (.cells (madeCells zeroCells.toArray ((m % 3) * 8)) 36)) (fun _ => True) (.slice (some ⟨W.heap.size, 0, none⟩) (m % 3) (m % 3)) (List.replicate (m % 3) Note.zero) := fun _ _ W _ =>
    (OwnT.made (T := fun _ => False) (α := Note) (w := W) (t := 36) (zs := zeroCells) (m % 3) (by unfold maxLen; omega) (Note.zero_is _ _) (by decide)).lst.more fun _ _ => trivial
  have HMADE := Lib.hid hmade
  clear hmade
  go_enter Try.func3, Try.ntmps3
  go_wp2_with fail
  refine (sane_any _).mono ?_
  rintro e w1 ⟨rfl, hb1⟩
  obtain ⟨w2, hw2⟩ : ∃ w2 : World, w2 = w1.alloc (.cells (madeCells zeroCells.toArray 2040) 36) := ⟨_, rfl⟩
  have hz2 : w2.heap.size = w1.heap.size + 1 := by rw [hw2]; simp
  have hl255 : Lst w2 (fun _ => True) (.slice (some ⟨w1.heap.size, 0, none⟩) 255 255) (List.replicate 255 Note.zero) := by
    rw [hw2]
    exact (OwnT.made (T := fun _ => False) (α := Note) (w := w1) (t := 36) (zs := zeroCells) 255 (by decide) (Note.zero_is _ _) (by decide)).lst.more fun _ _ => trivial
  have hb2 : Below w.heap.size w w2 := by rw [hw2]; exact hb1.alloc hb1.size _
  have hS0 := (St.start w2).alloc [.slice (some ⟨w1.heap.size, 0, none⟩) 255 255] 25
  have HB2 := Lib.hid hb2
  have HL := Lib.hid hl255
  have HS0 := Lib.hid hS0
  clear hb1 hb2 hl255 hS0
  rw [hz2] at HS0
  go_wp2_with fail
  rw [← hw2]
  have HW2 := Lib.hid hw2
  clear hw2 hmk
  by_cases h2 : m % 3 = 2
  · have hsend : ∀ (L : List (Nat × List Value)) (W : World) (u : Value), St w2 L W → Lst W (fun _ => True) u (List.replicate (m % 3) Note.zero) → Calls Try.prog 9 #[.agg #[.slice (some ⟨w1.heap.size, 0, none⟩) 255 255], u] W fun e w' => ∃ a c, e = .returned (.tuple #[.agg #[.slice a 255 c], .int .i64 4]) ∧ Below W.heap.size W w' := fun L W u hW hu =>
      (chSend_no (.slice (some ⟨w1.heap.size, 0, none⟩) 255 255) u (List.replicate 255 Note.zero) (List.replicate (m % 3) Note.zero) _ W (hW.lst HL.out) hu (small_zero _) (by rw [List.length_replicate]; decide) (by rw [List.length_replicate]; omega) (by rw [List.length_replicate, List.length_replicate]; omega)).mono fun e w' ⟨v', he, ho, hb⟩ => by
        obtain ⟨a, c, hv, _⟩ := ho.form
        rw [List.length_replicate] at hv
        subst hv
        exact ⟨a, c, he, hb⟩
    have HS := Lib.hid hsend
    have HH2 := Lib.hid h2
    clear hsend h2
    refine wp_region_noPanic ?_
    refine wp_region_open (fun w' => St w2 [(w1.heap.size + 1, [.slice (some ⟨w1.heap.size, 0, none⟩) 255 255])] w') 8 (by kernel_rfl) HS0.out.drew (fun W hS => ?_)
    refine wpStage_free (i := 1) (v := ?_) (by simp only [List.getElem?_toArray, List.getElem?_cons_succ, List.getElem?_cons_zero]; rfl) (by rfl) (by kernel_rfl) (fun _ _ _ h => h) ?_ (.inr hS) ?_ -- move
    rotate_left 1
    · intro w; go_simp; try with_reducible rfl
    try simp only [Act.put, List.setIfInBounds_toArray, List.set_cons_zero, List.set_cons_succ]
    refine wpStage_take (i := 0) (v := ?_) (by simp only [List.getElem?_toArray, List.getElem?_cons_succ, List.getElem?_cons_zero]; rfl) (by rfl) (by kernel_rfl) (fun _ _ _ h => h) ?_ hS ?_ -- load
    rotate_left 1
    · intro w hSw; (have hSw := hSw.loc); (try simp only [Loc, Cel, List.set_cons_zero, List.set_cons_succ, List.not_mem_nil, List.mem_cons, Nat.reduceAdd, Nat.zero_add, or_false, forall_eq_or_imp, forall_eq, false_implies, implies_true, and_true, true_and] at hSw); go_simp; try with_reducible rfl
    try simp only [Act.put, List.setIfInBounds_toArray, List.set_cons_zero, List.set_cons_succ]
    refine wpStage_ready (rs := [2, 7]) (by kernel_rfl) (by simp) ?_
    refine StageOne.cons (by simp only [List.getElem?_toArray, List.getElem?_cons_succ, List.getElem?_cons_zero]; rfl) (by rfl) (fun K hK => ?_) ?_ -- makeSlice 
    · go_simp
      have hS2 := hS.more (.cells (madeCells zeroCells.toArray ((m % 3) * 8)) 36)
      try have hA := hA.more (.cells (madeCells zeroCells.toArray ((m % 3) * 8)) 36)
      have hm2 := HMADE.out _ _ _ hS
      try simp only [World.size_alloc] at hm2
      try simp only [World.size_alloc] at hA
      refine hK.out _ _ hS2 (fun hS => ?_)
      clear hK K
      try simp only [Act.put, List.setIfInBounds_toArray, List.set_cons_zero, List.set_cons_succ]
      refine wpStage_ready (rs := [3, 7]) (by kernel_rfl) (by simp) ?_
      refine StageOne.cons (by simp only [List.getElem?_toArray, List.getElem?_cons_succ, List.getElem?_cons_zero]; rfl) (by rfl) (fun K hK => ?_) ?_ -- call func 9
      · go_simp
        refine (HS.out _ _ _ hS hm2).mono ?_
        rintro e w5 ⟨a5, c5, rfl, hb5⟩
        have hS2 := hS.call hb5
        have hS5 := hS2
        try have hA := hA.call hb5
        refine hK.out _ _ hS2 (fun hS => ?_)
        clear hK K
        try simp only [Act.put, List.setIfInBounds_toArray, List.set_cons_zero, List.set_cons_succ]
        refine wpStage_free (i := 4) (v := ?_) (by simp only [List.getElem?_toArray, List.getElem?_cons_succ, List.getElem?_cons_zero]; rfl) (by rfl) (by kernel_rfl) (fun _ _ _ h => h) ?_ (.inr hS) ?_ -- move
        rotate_left 1
        · intro w; go_simp; try with_reducible rfl
        try simp only [Act.put, List.setIfInBounds_toArray, List.set_cons_zero, List.set_cons_succ]
        refine wpStage_free (i := 5) (v := ?_) (by simp only [List.getElem?_toArray, List.getElem?_cons_succ, List.getElem?_cons_zero]; rfl) (by rfl) (by kernel_rfl) (fun _ _ _ h => h) ?_ (.inr hS) ?_ -- extract
        rotate_left 1
        · intro w; go_simp; try with_reducible rfl
        try simp only [Act.put, List.setIfInBounds_toArray, List.set_cons_zero, List.set_cons_succ]
        refine wpStage_free (i := 6) (v := ?_) (by simp only [List.getElem?_toArray, List.getElem?_cons_succ, List.getElem?_cons_zero]; rfl) (by rfl) (by kernel_rfl) (fun _ _ _ h => h) ?_ (.inr hS) ?_ -- extract
        rotate_left 1
        · intro w; go_simp; try with_reducible rfl
        try simp only [Act.put, List.setIfInBounds_toArray, List.set_cons_zero, List.set_cons_succ]
        refine wpStage_ready (rs := [7]) (by kernel_rfl) (by simp) ?_
        refine StageOne.cons (by simp only [List.getElem?_toArray, List.getElem?_cons_succ, List.getElem?_cons_zero]; rfl) (by rfl) (fun K hK => ?_) StageOne.nil -- alloc 
        go_simp
        have hS2 := hS.more (.cells #[.slice none 0 0] 25)
        have hA := hS.alloc [.slice none 0 0] 25
        try simp only [World.size_alloc] at hA
        try have hm2 := hm2.alloc (.cells #[.slice none 0 0] 25)
        refine hK.out _ _ hS2 (fun hS => ?_)
        clear hK K
        try simp only [Act.put, List.setIfInBounds_toArray, List.set_cons_zero, List.set_cons_succ]
        refine wpStage_ready (rs := [8]) (by kernel_rfl) (by simp) ?_
        refine StageOne.late (by simp only [List.getElem?_toArray, List.getElem?_cons_succ, List.getElem?_cons_zero]; rfl) (by rfl) (by kernel_rfl) (fun K hK => ?_) StageOne.nil -- store 
        have hc := hA.loc
        simp only [Loc, Cel, zeroCells, Note.cells, upd, List.modify_succ_cons, List.modify_zero_cons, List.set_cons_zero, List.set_cons_succ, List.not_mem_nil, List.mem_cons, Nat.reduceAdd, Nat.zero_add, or_false, forall_eq_or_imp, forall_eq, false_implies, implies_true, and_true, true_and] at hc
        go_simp
        refine hK.out _ _ ?_
        clear hK K
        try simp only [Act.put, List.setIfInBounds_toArray, List.set_cons_zero, List.set_cons_succ]
        refine wpStage_free (i := 9) (v := ?_) (by simp only [List.getElem?_toArray, List.getElem?_cons_succ, List.getElem?_cons_zero]; rfl) (by rfl) (by kernel_rfl) (fun _ _ _ h => h) ?_ (.inl (by kernel_rfl)) ?_ -- assign
        rotate_left 1
        · intro w; go_simp; try with_reducible rfl
        try simp only [Act.put, List.setIfInBounds_toArray, List.set_cons_zero, List.set_cons_succ]
        refine wpStage_done (by kernel_rfl) (NoPanic.normal ?_) _
        have hk : (m : Int) % 3 = 2 := by have := HH2.out; omega
        go_wp2_with fail
        go_ret
        refine ⟨rfl, ?_⟩
        first | exact HB2.out.trans ((hS5.alloc _ 25).below.mono HB2.out.size) | exact HB2.out.trans ((hA.set (j := 0) (i := 0) rfl (by simp) _).below.mono HB2.out.size)
      refine StageOne.cons (by simp only [List.getElem?_toArray, List.getElem?_cons_succ, List.getElem?_cons_zero]; rfl) (by rfl) (fun K hK => ?_) ?_ -- alloc 
      · go_simp
        have hS2 := hS.more (.cells #[.slice none 0 0] 25)
        have hA := hS.alloc [.slice none 0 0] 25
        try simp only [World.size_alloc] at hA
        try have hm2 := hm2.alloc (.cells #[.slice none 0 0] 25)
        refine hK.out _ _ hS2 (fun hS => ?_)
        clear hK K
        try simp only [Act.put, List.setIfInBounds_toArray, List.set_cons_zero, List.set_cons_succ]
        refine wpStage_ready (rs := [3]) (by kernel_rfl) (by simp) ?_
        refine StageOne.cons (by simp only [List.getElem?_toArray, List.getElem?_cons_succ, List.getElem?_cons_zero]; rfl) (by rfl) (fun K hK => ?_) StageOne.nil -- call func 9
        go_simp
        refine (HS.out _ _ _ hS hm2).mono ?_
        rintro e w5 ⟨a5, c5, rfl, hb5⟩
        have hS2 := hS.call hb5
        have hS5 := hS2
        try have hA := hA.call hb5
        refine hK.out _ _ hS2 (fun hS => ?_)
        clear hK K
        try simp only [Act.put, List.setIfInBounds_toArray, List.set_cons_zero, List.set_cons_succ]
        refine wpStage_free (i := 4) (v := ?_) (by simp only [List.getElem?_toArray, List.getElem?_cons_succ, List.getElem?_cons_zero]; rfl) (by rfl) (by kernel_rfl) (fun _ _ _ h => h) ?_ (.inr hS) ?_ -- move
        rotate_left 1
        · intro w; go_simp; try with_reducible rfl
        try simp only [Act.put, List.setIfInBounds_toArray, List.set_cons_zero, List.set_cons_succ]
        refine wpStage_free (i := 5) (v := ?_) (by simp only [List.getElem?_toArray, List.getElem?_cons_succ, List.getElem?_cons_zero]; rfl) (by rfl) (by kernel_rfl) (fun _ _ _ h => h) ?_ (.inr hS) ?_ -- extract
        rotate_left 1
        · intro w; go_simp; try with_reducible rfl
        try simp only [Act.put, List.setIfInBounds_toArray, List.set_cons_zero, List.set_cons_succ]
        refine wpStage_free (i := 6) (v := ?_) (by simp only [List.getElem?_toArray, List.getElem?_cons_succ, List.getElem?_cons_zero]; rfl) (by rfl) (by kernel_rfl) (fun _ _ _ h => h) ?_ (.inr hS) ?_ -- extract
        rotate_left 1
        · intro w; go_simp; try with_reducible rfl
        try simp only [Act.put, List.setIfInBounds_toArray, List.set_cons_zero, List.set_cons_succ]
        refine wpStage_ready (rs := [8]) (by kernel_rfl) (by simp) ?_
        refine StageOne.late (by simp only [List.getElem?_toArray, List.getElem?_cons_succ, List.getElem?_cons_zero]; rfl) (by rfl) (by kernel_rfl) (fun K hK => ?_) StageOne.nil -- store 
        have hc := hA.loc
        simp only [Loc, Cel, zeroCells, Note.cells, upd, List.modify_succ_cons, List.modify_zero_cons, List.set_cons_zero, List.set_cons_succ, List.not_mem_nil, List.mem_cons, Nat.reduceAdd, Nat.zero_add, or_false, forall_eq_or_imp, forall_eq, false_implies, implies_true, and_true, true_and] at hc
        go_simp
        refine hK.out _ _ ?_
        clear hK K
        try simp only [Act.put, List.setIfInBounds_toArray, List.set_cons_zero, List.set_cons_succ]
        refine wpStage_free (i := 9) (v := ?_) (by simp only [List.getElem?_toArray, List.getElem?_cons_succ, List.getElem?_cons_zero]; rfl) (by rfl) (by kernel_rfl) (fun _ _ _ h => h) ?_ (.inl (by kernel_rfl)) ?_ -- assign
        rotate_left 1
        · intro w; go_simp; try with_reducible rfl
        try simp only [Act.put, List.setIfInBounds_toArray, List.set_cons_zero, List.set_cons_succ]
        refine wpStage_done (by kernel_rfl) (NoPanic.normal ?_) _
        have hk : (m : Int) % 3 = 2 := by have := HH2.out; omega
        go_wp2_with fail
        go_ret
        refine ⟨rfl, ?_⟩
        first | exact HB2.out.trans ((hS5.alloc _ 25).below.mono HB2.out.size) | exact HB2.out.trans ((hA.set (j := 0) (i := 0) rfl (by simp) _).below.mono HB2.out.size)
      exact StageOne.nil
    refine StageOne.cons (by simp only [List.getElem?_toArray, List.getElem?_cons_succ, List.getElem?_cons_zero]; rfl) (by rfl) (fun K hK => ?_) ?_ -- alloc 
    · go_simp
      have hS2 := hS.more (.cells #[.slice none 0 0] 25)
      have hA := hS.alloc [.slice none 0 0] 25
      try simp only [World.size_alloc] at hA
      try have hm2 := hm2.alloc (.cells #[.slice none 0 0] 25)
      refine hK.out _ _ hS2 (fun hS => ?_)
      clear hK K
      try simp only [Act.put, List.setIfInBounds_toArray, List.set_cons_zero, List.set_cons_succ]
      refine wpStage_ready (rs := [2]) (by kernel_rfl) (by simp) ?_
      refine StageOne.cons (by simp only [List.getElem?_toArray, List.getElem?_cons_succ, List.getElem?_cons_zero]; rfl) (by rfl) (fun K hK => ?_) StageOne.nil -- makeSlice 
      go_simp
      have hS2 := hS.more (.cells (madeCells zeroCells.toArray ((m % 3) * 8)) 36)
      try have hA := hA.more (.cells (madeCells zeroCells.toArray ((m % 3) * 8)) 36)
      have hm2 := HMADE.out _ _ _ hS
      try simp only [World.size_alloc] at hm2
      try simp only [World.size_alloc] at hA
      refine hK.out _ _ hS2 (fun hS => ?_)
      clear hK K
      try simp only [Act.put, List.setIfInBounds_toArray, List.set_cons_zero, List.set_cons_succ]
      refine wpStage_ready (rs := [3]) (by kernel_rfl) (by simp) ?_
      refine StageOne.cons (by simp only [List.getElem?_toArray, List.getElem?_cons_succ, List.getElem?_cons_zero]; rfl) (by rfl) (fun K hK => ?_) StageOne.nil -- call func 9
      go_simp
      refine (HS.out _ _ _ hS hm2).mono ?_
      rintro e w5 ⟨a5, c5, rfl, hb5⟩
      have hS2 := hS.call hb5
      have hS5 := hS2
      try have hA := hA.call hb5
      refine hK.out _ _ hS2 (fun hS => ?_)
      clear hK K
      try simp only [Act.put, List.setIfInBounds_toArray, List.set_cons_zero, List.set_cons_succ]
      refine wpStage_free (i := 4) (v := ?_) (by simp only [List.getElem?_toArray, List.getElem?_cons_succ, List.getElem?_cons_zero]; rfl) (by rfl) (by kernel_rfl) (fun _ _ _ h => h) ?_ (.inr hS) ?_ -- move
      rotate_left 1
      · intro w; go_simp; try with_reducible rfl
      try simp only [Act.put, List.setIfInBounds_toArray, List.set_cons_zero, List.set_cons_succ]
      refine wpStage_free (i := 5) (v := ?_) (by simp only [List.getElem?_toArray, List.getElem?_cons_succ, List.getElem?_cons_zero]; rfl) (by rfl) (by kernel_rfl) (fun _ _ _ h => h) ?_ (.inr hS) ?_ -- extract
      rotate_left 1
      · intro w; go_simp; try with_reducible rfl
      try simp only [Act.put, List.setIfInBounds_toArray, List.set_cons_zero, List.set_cons_succ]
      refine wpStage_free (i := 6) (v := ?_) (by simp only [List.getElem?_toArray, List.getElem?_cons_succ, List.getElem?_cons_zero]; rfl) (by rfl) (by kernel_rfl) (fun _ _ _ h => h) ?_ (.inr hS) ?_ -- extract
      rotate_left 1
      · intro w; go_simp; try with_reducible rfl
      try simp only [Act.put, List.setIfInBounds_toArray, List.set_cons_zero, List.set_cons_succ]
      refine wpStage_ready (rs := [8]) (by kernel_rfl) (by simp) ?_
      refine StageOne.late (by simp only [List.getElem?_toArray, List.getElem?_cons_succ, List.getElem?_cons_zero]; rfl) (by rfl) (by kernel_rfl) (fun K hK => ?_) StageOne.nil -- store 
      have hc := hA.loc
      simp only [Loc, Cel, zeroCells, Note.cells, upd, List.modify_succ_cons, List.modify_zero_cons, List.set_cons_zero, List.set_cons_succ, List.not_mem_nil, List.mem_cons, Nat.reduceAdd, Nat.zero_add, or_false, forall_eq_or_imp, forall_eq, false_implies, implies_true, and_true, true_and] at hc
      go_simp
      refine hK.out _ _ ?_
      clear hK K
      try simp only [Act.put, List.setIfInBounds_toArray, List.set_cons_zero, List.set_cons_succ]
      refine wpStage_free (i := 9) (v := ?_) (by simp only [List.getElem?_toArray, List.getElem?_cons_succ, List.getElem?_cons_zero]; rfl) (by rfl) (by kernel_rfl) (fun _ _ _ h => h) ?_ (.inl (by kernel_rfl)) ?_ -- assign
      rotate_left 1
      · intro w; go_simp; try with_reducible rfl
      try simp only [Act.put, List.setIfInBounds_toArray, List.set_cons_zero, List.set_cons_succ]
      refine wpStage_done (by kernel_rfl) (NoPanic.normal ?_) _
      have hk : (m : Int) % 3 = 2 := by have := HH2.out; omega
      go_wp2_with fail
      go_ret
      refine ⟨rfl, ?_⟩
      first | exact HB2.out.trans ((hS5.alloc _ 25).below.mono HB2.out.size) | exact HB2.out.trans ((hA.set (j := 0) (i := 0) rfl (by simp) _).below.mono HB2.out.size)
    exact StageOne.nil

  · by_cases h3 : m % 3 = 1
    · have h2 := h3
      clear h3
      have hsend : ∀ (L : List (Nat × List Value)) (W : World) (u : Value), St w2 L W → Lst W (fun _ => True) u (List.replicate (m % 3) Note.zero) → Calls Try.prog 9 #[.agg #[.slice (some ⟨w1.heap.size, 0, none⟩) 255 255], u] W fun e w' => ∃ a c, e = .returned (.tuple #[.agg #[.slice a 256 c], .int .i64 0]) ∧ Below W.heap.size W w' := fun L W u hW hu =>
        (chSend_yes (.slice (some ⟨w1.heap.size, 0, none⟩) 255 255) u (List.replicate 255 Note.zero) (List.replicate (m % 3) Note.zero) _ W (hW.lst HL.out) hu (small_zero _) (small_zero _) (by rw [List.length_replicate, List.length_replicate]; omega)).mono fun e w' ⟨v', he, ho, hb⟩ => by
          obtain ⟨a, c, hv, _⟩ := ho.form
          rw [List.length_append, List.length_replicate, List.length_replicate, h2] at hv
          subst hv
          exact ⟨a, c, he, hb⟩
      have HS := Lib.hid hsend
      have HH2 := Lib.hid h2
      clear hsend h2
      refine wp_region_noPanic ?_
      refine wp_region_open (fun w' => St w2 [(w1.heap.size + 1, [.slice (some ⟨w1.heap.size, 0, none⟩) 255 255])] w') 8 (by kernel_rfl) HS0.out.drew (fun W hS => ?_)
      refine wpStage_free (i := 1) (v := ?_) (by simp only [List.getElem?_toArray, List.getElem?_cons_succ, List.getElem?_cons_zero]; rfl) (by rfl) (by kernel_rfl) (fun _ _ _ h => h) ?_ (.inr hS) ?_ -- move
      rotate_left 1
      · intro w; go_simp; try with_reducible rfl
      try simp only [Act.put, List.setIfInBounds_toArray, List.set_cons_zero, List.set_cons_succ]
      refine wpStage_take (i := 0) (v := ?_) (by simp only [List.getElem?_toArray, List.getElem?_cons_succ, List.getElem?_cons_zero]; rfl) (by rfl) (by kernel_rfl) (fun _ _ _ h => h) ?_ hS ?_ -- load
      rotate_left 1
      · intro w hSw; (have hSw := hSw.loc); (try simp only [Loc, Cel, List.set_cons_zero, List.set_cons_succ, List.not_mem_nil, List.mem_cons, Nat.reduceAdd, Nat.zero_add, or_false, forall_eq_or_imp, forall_eq, false_implies, implies_true, and_true, true_and] at hSw); go_simp; try with_reducible rfl
      try simp only [Act.put, List.setIfInBounds_toArray, List.set_cons_zero, List.set_cons_succ]
      refine wpStage_ready (rs := [2, 7]) (by kernel_rfl) (by simp) ?_
      refine StageOne.cons (by simp only [List.getElem?_toArray, List.getElem?_cons_succ, List.getElem?_cons_zero]; rfl) (by rfl) (fun K hK => ?_) ?_ -- makeSlice 
      · go_simp
        have hS2 := hS.more (.cells (madeCells zeroCells.toArray ((m % 3) * 8)) 36)
        try have hA := hA.more (.cells (madeCells zeroCells.toArray ((m % 3) * 8)) 36)
        have hm2 := HMADE.out _ _ _ hS
        try simp only [World.size_alloc] at hm2
        try simp only [World.size_alloc] at hA
        refine hK.out _ _ hS2 (fun hS => ?_)
        clear hK K
        try simp only [Act.put, List.setIfInBounds_toArray, List.set_cons_zero, List.set_cons_succ]
        refine wpStage_ready (rs := [3, 7]) (by kernel_rfl) (by simp) ?_
        refine StageOne.cons (by simp only [List.getElem?_toArray, List.getElem?_cons_succ, List.getElem?_cons_zero]; rfl) (by rfl) (fun K hK => ?_) ?_ -- call func 9
        · go_simp
          refine (HS.out _ _ _ hS hm2).mono ?_
          rintro e w5 ⟨a5, c5, rfl, hb5⟩
          have hS2 := hS.call hb5
          have hS5 := hS2
          try have hA := hA.call hb5
          refine hK.out _ _ hS2 (fun hS => ?_)
          clear hK K
          try simp only [Act.put, List.setIfInBounds_toArray, List.set_cons_zero, List.set_cons_succ]
          refine wpStage_free (i := 4) (v := ?_) (by simp only [List.getElem?_toArray, List.getElem?_cons_succ, List.getElem?_cons_zero]; rfl) (by rfl) (by kernel_rfl) (fun _ _ _ h => h) ?_ (.inr hS) ?_ -- move
          rotate_left 1
          · intro w; go_simp; try with_reducible rfl
          try simp only [Act.put, List.setIfInBounds_toArray, List.set_cons_zero, List.set_cons_succ]
          refine wpStage_free (i := 5) (v := ?_) (by simp only [List.getElem?_toArray, List.getElem?_cons_succ, List.getElem?_cons_zero]; rfl) (by rfl) (by kernel_rfl) (fun _ _ _ h => h) ?_ (.inr hS) ?_ -- extract
          rotate_left 1
          · intro w; go_simp; try with_reducible rfl
          try simp only [Act.put, List.setIfInBounds_toArray, List.set_cons_zero, List.set_cons_succ]
          refine wpStage_free (i := 6) (v := ?_) (by simp only [List.getElem?_toArray, List.getElem?_cons_succ, List.getElem?_cons_zero]; rfl) (by rfl) (by kernel_rfl) (fun _ _ _ h => h) ?_ (.inr hS) ?_ -- extract
          rotate_left 1
          · intro w; go_simp; try with_reducible rfl
          try simp only [Act.put, List.setIfInBounds_toArray, List.set_cons_zero, List.set_cons_succ]
          refine wpStage_ready (rs := [7]) (by kernel_rfl) (by simp) ?_
          refine StageOne.cons (by simp only [List.getElem?_toArray, List.getElem?_cons_succ, List.getElem?_cons_zero]; rfl) (by rfl) (fun K hK => ?_) StageOne.nil -- alloc 
          go_simp
          have hS2 := hS.more (.cells #[.slice none 0 0] 25)
          have hA := hS.alloc [.slice none 0 0] 25
          try simp only [World.size_alloc] at hA
          try have hm2 := hm2.alloc (.cells #[.slice none 0 0] 25)
          refine hK.out _ _ hS2 (fun hS => ?_)
          clear hK K
          try simp only [Act.put, List.setIfInBounds_toArray, List.set_cons_zero, List.set_cons_succ]
          refine wpStage_ready (rs := [8]) (by kernel_rfl) (by simp) ?_
          refine StageOne.late (by simp only [List.getElem?_toArray, List.getElem?_cons_succ, List.getElem?_cons_zero]; rfl) (by rfl) (by kernel_rfl) (fun K hK => ?_) StageOne.nil -- store 
          have hc := hA.loc
          simp only [Loc, Cel, zeroCells, Note.cells, upd, List.modify_succ_cons, List.modify_zero_cons, List.set_cons_zero, List.set_cons_succ, List.not_mem_nil, List.mem_cons, Nat.reduceAdd, Nat.zero_add, or_false, forall_eq_or_imp, forall_eq, false_implies, implies_true, and_true, true_and] at hc
          go_simp
          refine hK.out _ _ ?_
          clear hK K
          try simp only [Act.put, List.setIfInBounds_toArray, List.set_cons_zero, List.set_cons_succ]
          refine wpStage_free (i := 9) (v := ?_) (by simp only [List.getElem?_toArray, List.getElem?_cons_succ, List.getElem?_cons_zero]; rfl) (by rfl) (by kernel_rfl) (fun _ _ _ h => h) ?_ (.inl (by kernel_rfl)) ?_ -- assign
          rotate_left 1
          · intro w; go_simp; try with_reducible rfl
          try simp only [Act.put, List.setIfInBounds_toArray, List.set_cons_zero, List.set_cons_succ]
          refine wpStage_done (by kernel_rfl) (NoPanic.normal ?_) _
          have hk : (m : Int) % 3 = 1 := by have := HH2.out; omega
          go_wp2_with fail
          go_ret
          refine ⟨rfl, ?_⟩
          first | exact HB2.out.trans ((hS5.alloc _ 25).below.mono HB2.out.size) | exact HB2.out.trans ((hA.set (j := 0) (i := 0) rfl (by simp) _).below.mono HB2.out.size)
        refine StageOne.cons (by simp only [List.getElem?_toArray, List.getElem?_cons_succ, List.getElem?_cons_zero]; rfl) (by rfl) (fun K hK => ?_) ?_ -- alloc 
        · go_simp
          have hS2 := hS.more (.cells #[.slice none 0 0] 25)
          have hA := hS.alloc [.slice none 0 0] 25
          try simp only [World.size_alloc] at hA
          try have hm2 := hm2.alloc (.cells #[.slice none 0 0] 25)
          refine hK.out _ _ hS2 (fun hS => ?_)
          clear hK K
          try simp only [Act.put, List.setIfInBounds_toArray, List.set_cons_zero, List.set_cons_succ]
          refine wpStage_ready (rs := [3]) (by kernel_rfl) (by simp) ?_
          refine StageOne.cons (by simp only [List.getElem?_toArray, List.getElem?_cons_succ, List.getElem?_cons_zero]; rfl) (by rfl) (fun K hK => ?_) StageOne.nil -- call func 9
          go_simp
          refine (HS.out _ _ _ hS hm2).mono ?_
          rintro e w5 ⟨a5, c5, rfl, hb5⟩
          have hS2 := hS.call hb5
          have hS5 := hS2
          try have hA := hA.call hb5
          refine hK.out _ _ hS2 (fun hS => ?_)
          clear hK K
          try simp only [Act.put, List.setIfInBounds_toArray, List.set_cons_zero, List.set_cons_succ]
          refine wpStage_free (i := 4) (v := ?_) (by simp only [List.getElem?_toArray, List.getElem?_cons_succ, List.getElem?_cons_zero]; rfl) (by rfl) (by kernel_rfl) (fun _ _ _ h => h) ?_ (.inr hS) ?_ -- move
          rotate_left 1
          · intro w; go_simp; try with_reducible rfl
          try simp only [Act.put, List.setIfInBounds_toArray, List.set_cons_zero, List.set_cons_succ]
          refine wpStage_free (i := 5) (v := ?_) (by simp only [List.getElem?_toArray, List.getElem?_cons_succ, List.getElem?_cons_zero]; rfl) (by rfl) (by kernel_rfl) (fun _ _ _ h => h) ?_ (.inr hS) ?_ -- extract
          rotate_left 1
          · intro w; go_simp; try with_reducible rfl
          try simp only [Act.put, List.setIfInBounds_toArray, List.set_cons_zero, List.set_cons_succ]
          refine wpStage_free (i := 6) (v := ?_) (by simp only [List.getElem?_toArray, List.getElem?_cons_succ, List.getElem?_cons_zero]; rfl) (by rfl) (by kernel_rfl) (fun _ _ _ h => h) ?_ (.inr hS) ?_ -- extract
          rotate_left 1
          · intro w; go_simp; try with_reducible rfl
          try simp only [Act.put, List.setIfInBounds_toArray, List.set_cons_zero, List.set_cons_succ]
          refine wpStage_ready (rs := [8]) (by kernel_rfl) (by simp) ?_
          refine StageOne.late (by simp only [List.getElem?_toArray, List.getElem?_cons_succ, List.getElem?_cons_zero]; rfl) (by rfl) (by kernel_rfl) (fun K hK => ?_) StageOne.nil -- store 
          have hc := hA.loc
          simp only [Loc, Cel, zeroCells, Note.cells, upd, List.modify_succ_cons, List.modify_zero_cons, List.set_cons_zero, List.set_cons_succ, List.not_mem_nil, List.mem_cons, Nat.reduceAdd, Nat.zero_add, or_false, forall_eq_or_imp, forall_eq, false_implies, implies_true, and_true, true_and] at hc
          go_simp
          refine hK.out _ _ ?_
          clear hK K
          try simp only [Act.put, List.setIfInBounds_toArray, List.set_cons_zero, List.set_cons_succ]
          refine wpStage_free (i := 9) (v := ?_) (by simp only [List.getElem?_toArray, List.getElem?_cons_succ, List.getElem?_cons_zero]; rfl) (by rfl) (by kernel_rfl) (fun _ _ _ h => h) ?_ (.inl (by kernel_rfl)) ?_ -- assign
          rotate_left 1
          · intro w; go_simp; try with_reducible rfl
          try simp only [Act.put, List.setIfInBounds_toArray, List.set_cons_zero, List.set_cons_succ]
          refine wpStage_done (by kernel_rfl) (NoPanic.normal ?_) _
          have hk : (m : Int) % 3 = 1 := by have := HH2.out; omega
          go_wp2_with fail
          go_ret
          refine ⟨rfl, ?_⟩
          first | exact HB2.out.trans ((hS5.alloc _ 25).below.mono HB2.out.size) | exact HB2.out.trans ((hA.set (j := 0) (i := 0) rfl (by simp) _).below.mono HB2.out.size)
        exact StageOne.nil
      refine StageOne.cons (by simp only [List.getElem?_toArray, List.getElem?_cons_succ, List.getElem?_cons_zero]; rfl) (by rfl) (fun K hK => ?_) ?_ -- alloc 
      · go_simp
        have hS2 := hS.more (.cells #[.slice none 0 0] 25)
        have hA := hS.alloc [.slice none 0 0] 25
        try simp only [World.size_alloc] at hA
        try have hm2 := hm2.alloc (.cells #[.slice none 0 0] 25)
        refine hK.out _ _ hS2 (fun hS => ?_)
        clear hK K
        try simp only [Act.put, List.setIfInBounds_toArray, List.set_cons_zero, List.set_cons_succ]
        refine wpStage_ready (rs := [2]) (by kernel_rfl) (by simp) ?_
        refine StageOne.cons (by simp only [List.getElem?_toArray, List.getElem?_cons_succ, List.getElem?_cons_zero]; rfl) (by rfl) (fun K hK => ?_) StageOne.nil -- makeSlice 
        go_simp
        have hS2 := hS.more (.cells (madeCells zeroCells.toArray ((m % 3) * 8)) 36)
        try have hA := hA.more (.cells (madeCells zeroCells.toArray ((m % 3) * 8)) 36)
        have hm2 := HMADE.out _ _ _ hS
        try simp only [World.size_alloc] at hm2
        try simp only [World.size_alloc] at hA
        refine hK.out _ _ hS2 (fun hS => ?_)
        clear hK K
        try simp only [Act.put, List.setIfInBounds_toArray, List.set_cons_zero, List.set_cons_succ]
        refine wpStage_ready (rs := [3]) (by kernel_rfl) (by simp) ?_
        refine StageOne.cons (by simp only [List.getElem?_toArray, List.getElem?_cons_succ, List.getElem?_cons_zero]; rfl) (by rfl) (fun K hK => ?_) StageOne.nil -- call func 9
        go_simp
        refine (HS.out _ _ _ hS hm2).mono ?_
        rintro e w5 ⟨a5, c5, rfl, hb5⟩
        have hS2 := hS.call hb5
        have hS5 := hS2
        try have hA := hA.call hb5
        refine hK.out _ _ hS2 (fun hS => ?_)
        clear hK K
        try simp only [Act.put, List.setIfInBounds_toArray, List.set_cons_zero, List.set_cons_succ]
        refine wpStage_free (i := 4) (v := ?_) (by simp only [List.getElem?_toArray, List.getElem?_cons_succ, List.getElem?_cons_zero]; rfl) (by rfl) (by kernel_rfl) (fun _ _ _ h => h) ?_ (.inr hS) ?_ -- move
        rotate_left 1
        · intro w; go_simp; try with_reducible rfl
        try simp only [Act.put, List.setIfInBounds_toArray, List.set_cons_zero, List.set_cons_succ]
        refine wpStage_free (i := 5) (v := ?_) (by simp only [List.getElem?_toArray, List.getElem?_cons_succ, List.getElem?_cons_zero]; rfl) (by rfl) (by kernel_rfl) (fun _ _ _ h => h) ?_ (.inr hS) ?_ -- extract
        rotate_left 1
        · intro w; go_simp; try with_reducible rfl
        try simp only [Act.put, List.setIfInBounds_toArray, List.set_cons_zero, List.set_cons_succ]
        refine wpStage_free (i := 6) (v := ?_) (by simp only [List.getElem?_toArray, List.getElem?_cons_succ, List.getElem?_cons_zero]; rfl) (by rfl) (by kernel_rfl) (fun _ _ _ h => h) ?_ (.inr hS) ?_ -- extract
        rotate_left 1
        · intro w; go_simp; try with_reducible rfl
        try simp only [Act.put, List.setIfInBounds_toArray, List.set_cons_zero, List.set_cons_succ]
        refine wpStage_ready (rs := [8]) (by kernel_rfl) (by simp) ?_
        refine StageOne.late (by simp only [List.getElem?_toArray, List.getElem?_cons_succ, List.getElem?_cons_zero]; rfl) (by rfl) (by kernel_rfl) (fun K hK => ?_) StageOne.nil -- store 
        have hc := hA.loc
        simp only [Loc, Cel, zeroCells, Note.cells, upd, List.modify_succ_cons, List.modify_zero_cons, List.set_cons_zero, List.set_cons_succ, List.not_mem_nil, List.mem_cons, Nat.reduceAdd, Nat.zero_add, or_false, forall_eq_or_imp, forall_eq, false_implies, implies_true, and_true, true_and] at hc
        go_simp
        refine hK.out _ _ ?_
        clear hK K
        try simp only [Act.put, List.setIfInBounds_toArray, List.set_cons_zero, List.set_cons_succ]
        refine wpStage_free (i := 9) (v := ?_) (by simp only [List.getElem?_toArray, List.getElem?_cons_succ, List.getElem?_cons_zero]; rfl) (by rfl) (by kernel_rfl) (fun _ _ _ h => h) ?_ (.inl (by kernel_rfl)) ?_ -- assign
        rotate_left 1
        · intro w; go_simp; try with_reducible rfl
        try simp only [Act.put, List.setIfInBounds_toArray, List.set_cons_zero, List.set_cons_succ]
        refine wpStage_done (by kernel_rfl) (NoPanic.normal ?_) _
        have hk : (m : Int) % 3 = 1 := by have := HH2.out; omega
        go_wp2_with fail
        go_ret
        refine ⟨rfl, ?_⟩
        first | exact HB2.out.trans ((hS5.alloc _ 25).below.mono HB2.out.size) | exact HB2.out.trans ((hA.set (j := 0) (i := 0) rfl (by simp) _).below.mono HB2.out.size)
      exact StageOne.nil

    · have h2 : m % 3 = 0 := by omega
      have hsend : ∀ (L : List (Nat × List Value)) (W : World) (u : Value), St w2 L W → Lst W (fun _ => True) u (List.replicate (m % 3) Note.zero) → Calls Try.prog 9 #[.agg #[.slice (some ⟨w1.heap.size, 0, none⟩) 255 255], u] W fun e w' => ∃ a c, e = .returned (.tuple #[.agg #[.slice a 255 c], .int .i64 0]) ∧ Below W.heap.size W w' := fun L W u hW hu =>
        (chSend_yes (.slice (some ⟨w1.heap.size, 0, none⟩) 255 255) u (List.replicate 255 Note.zero) (List.replicate (m % 3) Note.zero) _ W (hW.lst HL.out) hu (small_zero _) (small_zero _) (by rw [List.length_replicate, List.length_replicate]; omega)).mono fun e w' ⟨v', he, ho, hb⟩ => by
          obtain ⟨a, c, hv, _⟩ := ho.form
          rw [List.length_append, List.length_replicate, List.length_replicate, h2] at hv
          subst hv
          exact ⟨a, c, he, hb⟩
      have HS := Lib.hid hsend
      have HH2 := Lib.hid h2
      clear hsend h2
      refine wp_region_noPanic ?_
      refine wp_region_open (fun w' => St w2 [(w1.heap.size + 1, [.slice (some ⟨w1.heap.size, 0, none⟩) 255 255])] w') 8 (by kernel_rfl) HS0.out.drew (fun W hS => ?_)
      refine wpStage_free (i := 1) (v := ?_) (by simp only [List.getElem?_toArray, List.getElem?_cons_succ, List.getElem?_cons_zero]; rfl) (by rfl) (by kernel_rfl) (fun _ _ _ h => h) ?_ (.inr hS) ?_ -- move
      rotate_left 1
      · intro w; go_simp; try with_reducible rfl
      try simp only [Act.put, List.setIfInBounds_toArray, List.set_cons_zero, List.set_cons_succ]
      refine wpStage_take (i := 0) (v := ?_) (by simp only [List.getElem?_toArray, List.getElem?_cons_succ, List.getElem?_cons_zero]; rfl) (by rfl) (by kernel_rfl) (fun _ _ _ h => h) ?_ hS ?_ -- load
      rotate_left 1
      · intro w hSw; (have hSw := hSw.loc); (try simp only [Loc, Cel, List.set_cons_zero, List.set_cons_succ, List.not_mem_nil, List.mem_cons, Nat.reduceAdd, Nat.zero_add, or_false, forall_eq_or_imp, forall_eq, false_implies, implies_true, and_true, true_and] at hSw); go_simp; try with_reducible rfl
      try simp only [Act.put, List.setIfInBounds_toArray, List.set_cons_zero, List.set_cons_succ]
      refine wpStage_ready (rs := [2, 7]) (by kernel_rfl) (by simp) ?_
      refine StageOne.cons (by simp only [List.getElem?_toArray, List.getElem?_cons_succ, List.getElem?_cons_zero]; rfl) (by rfl) (fun K hK => ?_) ?_ -- makeSlice 
      · go_simp
        have hS2 := hS.more (.cells (madeCells zeroCells.toArray ((m % 3) * 8)) 36)
        try have hA := hA.more (.cells (madeCells zeroCells.toArray ((m % 3) * 8)) 36)
        have hm2 := HMADE.out _ _ _ hS
        try simp only [World.size_alloc] at hm2
        try simp only [World.size_alloc] at hA
        refine hK.out _ _ hS2 (fun hS => ?_)
        clear hK K
        try simp only [Act.put, List.setIfInBounds_toArray, List.set_cons_zero, List.set_cons_succ]
        refine wpStage_ready (rs := [3, 7]) (by kernel_rfl) (by simp) ?_
        refine StageOne.cons (by simp only [List.getElem?_toArray, List.getElem?_cons_succ, List.getElem?_cons_zero]; rfl) (by rfl) (fun K hK => ?_) ?_ -- call func 9
        · go_simp
          refine (HS.out _ _ _ hS hm2).mono ?_
          rintro e w5 ⟨a5, c5, rfl, hb5⟩
          have hS2 := hS.call hb5
          have hS5 := hS2
          try have hA := hA.call hb5
          refine hK.out _ _ hS2 (fun hS => ?_)
          clear hK K
          try simp only [Act.put, List.setIfInBounds_toArray, List.set_cons_zero, List.set_cons_succ]
          refine wpStage_free (i := 4) (v := ?_) (by simp only [List.getElem?_toArray, List.getElem?_cons_succ, List.getElem?_cons_zero]; rfl) (by rfl) (by kernel_rfl) (fun _ _ _ h => h) ?_ (.inr hS) ?_ -- move
          rotate_left 1
          · intro w; go_simp; try with_reducible rfl
          try simp only [Act.put, List.setIfInBounds_toArray, List.set_cons_zero, List.set_cons_succ]
          refine wpStage_free (i := 5) (v := ?_) (by simp only [List.getElem?_toArray, List.getElem?_cons_succ, List.getElem?_cons_zero]; rfl) (by rfl) (by kernel_rfl) (fun _ _ _ h => h) ?_ (.inr hS) ?_ -- extract
          rotate_left 1
          · intro w; go_simp; try with_reducible rfl
          try simp only [Act.put, List.setIfInBounds_toArray, List.set_cons_zero, List.set_cons_succ]
          refine wpStage_free (i := 6) (v := ?_) (by simp only [List.getElem?_toArray, List.getElem?_cons_succ, List.getElem?_cons_zero]; rfl) (by rfl) (by kernel_rfl) (fun _ _ _ h => h) ?_ (.inr hS) ?_ -- extract
          rotate_left 1
          · intro w; go_simp; try with_reducible rfl
          try simp only [Act.put, List.setIfInBounds_toArray, List.set_cons_zero, List.set_cons_succ]
          refine wpStage_ready (rs := [7]) (by kernel_rfl) (by simp) ?_
          refine StageOne.cons (by simp only [List.getElem?_toArray, List.getElem?_cons_succ, List.getElem?_cons_zero]; rfl) (by rfl) (fun K hK => ?_) StageOne.nil -- alloc 
          go_simp
          have hS2 := hS.more (.cells #[.slice none 0 0] 25)
          have hA := hS.alloc [.slice none 0 0] 25
          try simp only [World.size_alloc] at hA
          try have hm2 := hm2.alloc (.cells #[.slice none 0 0] 25)
          refine hK.out _ _ hS2 (fun hS => ?_)
          clear hK K
          try simp only [Act.put, List.setIfInBounds_toArray, List.set_cons_zero, List.set_cons_succ]
          refine wpStage_ready (rs := [8]) (by kernel_rfl) (by simp) ?_
          refine StageOne.late (by simp only [List.getElem?_toArray, List.getElem?_cons_succ, List.getElem?_cons_zero]; rfl) (by rfl) (by kernel_rfl) (fun K hK => ?_) StageOne.nil -- store 
          have hc := hA.loc
          simp only [Loc, Cel, zeroCells, Note.cells, upd, List.modify_succ_cons, List.modify_zero_cons, List.set_cons_zero, List.set_cons_succ, List.not_mem_nil, List.mem_cons, Nat.reduceAdd, Nat.zero_add, or_false, forall_eq_or_imp, forall_eq, false_implies, implies_true, and_true, true_and] at hc
          go_simp
          refine hK.out _ _ ?_
          clear hK K
          try simp only [Act.put, List.setIfInBounds_toArray, List.set_cons_zero, List.set_cons_succ]
          refine wpStage_free (i := 9) (v := ?_) (by simp only [List.getElem?_toArray, List.getElem?_cons_succ, List.getElem?_cons_zero]; rfl) (by rfl) (by kernel_rfl) (fun _ _ _ h => h) ?_ (.inl (by kernel_rfl)) ?_ -- assign
          rotate_left 1
          · intro w; go_simp; try with_reducible rfl
          try simp only [Act.put, List.setIfInBounds_toArray, List.set_cons_zero, List.set_cons_succ]
          refine wpStage_done (by kernel_rfl) (NoPanic.normal ?_) _
          have hk : (m : Int) % 3 = 0 := by have := HH2.out; omega
          go_wp2_with fail
          go_ret
          refine ⟨rfl, ?_⟩
          first | exact HB2.out.trans ((hS5.alloc _ 25).below.mono HB2.out.size) | exact HB2.out.trans ((hA.set (j := 0) (i := 0) rfl (by simp) _).below.mono HB2.out.size)
        refine StageOne.cons (by simp only [List.getElem?_toArray, List.getElem?_cons_succ, List.getElem?_cons_zero]; rfl) (by rfl) (fun K hK => ?_) ?_ -- alloc 
        · go_simp
          have hS2 := hS.more (.cells #[.slice none 0 0] 25)
          have hA := hS.alloc [.slice none 0 0] 25
          try simp only [World.size_alloc] at hA
          try have hm2 := hm2.alloc (.cells #[.slice none 0 0] 25)
          refine hK.out _ _ hS2 (fun hS => ?_)
          clear hK K
          try simp only [Act.put, List.setIfInBounds_toArray, List.set_cons_zero, List.set_cons_succ]
          refine wpStage_ready (rs := [3]) (by kernel_rfl) (by simp) ?_
          refine StageOne.cons (by simp only [List.getElem?_toArray, List.getElem?_cons_succ, List.getElem?_cons_zero]; rfl) (by rfl) (fun K hK => ?_) StageOne.nil -- call func 9
          go_simp
          refine (HS.out _ _ _ hS hm2).mono ?_
          rintro e w5 ⟨a5, c5, rfl, hb5⟩
          have hS2 := hS.call hb5
          have hS5 := hS2
          try have hA := hA.call hb5
          refine hK.out _ _ hS2 (fun hS => ?_)
          clear hK K
          try simp only [Act.put, List.setIfInBounds_toArray, List.set_cons_zero, List.set_cons_succ]
          refine wpStage_free (i := 4) (v := ?_) (by simp only [List.getElem?_toArray, List.getElem?_cons_succ, List.getElem?_cons_zero]; rfl) (by rfl) (by kernel_rfl) (fun _ _ _ h => h) ?_ (.inr hS) ?_ -- move
          rotate_left 1
          · intro w; go_simp; try with_reducible rfl
          try simp only [Act.put, List.setIfInBounds_toArray, List.set_cons_zero, List.set_cons_succ]
          refine wpStage_free (i := 5) (v := ?_) (by simp only [List.getElem?_toArray, List.getElem?_cons_succ, List.getElem?_cons_zero]; rfl) (by rfl) (by kernel_rfl) (fun _ _ _ h => h) ?_ (.inr hS) ?_ -- extract
          rotate_left 1
          · intro w; go_simp; try with_reducible rfl
          try simp only [Act.put, List.setIfInBounds_toArray, List.set_cons_zero, List.set_cons_succ]
          refine wpStage_free (i := 6) (v := ?_) (by simp only [List.getElem?_toArray, List.getElem?_cons_succ, List.getElem?_cons_zero]; rfl) (by rfl) (by kernel_rfl) (fun _ _ _ h => h) ?_ (.inr hS) ?_ -- extract
          rotate_left 1
          · intro w; go_simp; try with_reducible rfl
          try simp only [Act.put, List.setIfInBounds_toArray, List.set_cons_zero, List.set_cons_succ]
          refine wpStage_ready (rs := [8]) (by kernel_rfl) (by simp) ?_
          refine StageOne.late (by simp only [List.getElem?_toArray, List.getElem?_cons_succ, List.getElem?_cons_zero]; rfl) (by rfl) (by kernel_rfl) (fun K hK => ?_) StageOne.nil -- store 
          have hc := hA.loc
          simp only [Loc, Cel, zeroCells, Note.cells, upd, List.modify_succ_cons, List.modify_zero_cons, List.set_cons_zero, List.set_cons_succ, List.not_mem_nil, List.mem_cons, Nat.reduceAdd, Nat.zero_add, or_false, forall_eq_or_imp, forall_eq, false_implies, implies_true, and_true, true_and] at hc
          go_simp
          refine hK.out _ _ ?_
          clear hK K
          try simp only [Act.put, List.setIfInBounds_toArray, List.set_cons_zero, List.set_cons_succ]
          refine wpStage_free (i := 9) (v := ?_) (by simp only [List.getElem?_toArray, List.getElem?_cons_succ, List.getElem?_cons_zero]; rfl) (by rfl) (by kernel_rfl) (fun _ _ _ h => h) ?_ (.inl (by kernel_rfl)) ?_ -- assign
          rotate_left 1
          · intro w; go_simp; try with_reducible rfl
          try simp only [Act.put, List.setIfInBounds_toArray, List.set_cons_zero, List.set_cons_succ]
          refine wpStage_done (by kernel_rfl) (NoPanic.normal ?_) _
          have hk : (m : Int) % 3 = 0 := by have := HH2.out; omega
          go_wp2_with fail
          go_ret
          refine ⟨rfl, ?_⟩
          first | exact HB2.out.trans ((hS5.alloc _ 25).below.mono HB2.out.size) | exact HB2.out.trans ((hA.set (j := 0) (i := 0) rfl (by simp) _).below.mono HB2.out.size)
        exact StageOne.nil
      refine StageOne.cons (by simp only [List.getElem?_toArray, List.getElem?_cons_succ, List.getElem?_cons_zero]; rfl) (by rfl) (fun K hK => ?_) ?_ -- alloc 
      · go_simp
        have hS2 := hS.more (.cells #[.slice none 0 0] 25)
        have hA := hS.alloc [.slice none 0 0] 25
        try simp only [World.size_alloc] at hA
        try have hm2 := hm2.alloc (.cells #[.slice none 0 0] 25)
        refine hK.out _ _ hS2 (fun hS => ?_)
        clear hK K
        try simp only [Act.put, List.setIfInBounds_toArray, List.set_cons_zero, List.set_cons_succ]
        refine wpStage_ready (rs := [2]) (by kernel_rfl) (by simp) ?_
        refine StageOne.cons (by simp only [List.getElem?_toArray, List.getElem?_cons_succ, List.getElem?_cons_zero]; rfl) (by rfl) (fun K hK => ?_) StageOne.nil -- makeSlice 
        go_simp
        have hS2 := hS.more (.cells (madeCells zeroCells.toArray ((m % 3) * 8)) 36)
        try have hA := hA.more (.cells (madeCells zeroCells.toArray ((m % 3) * 8)) 36)
        have hm2 := HMADE.out _ _ _ hS
        try simp only [World.size_alloc] at hm2
        try simp only [World.size_alloc] at hA
        refine hK.out _ _ hS2 (fun hS => ?_)
        clear hK K
        try simp only [Act.put, List.setIfInBounds_toArray, List.set_cons_zero, List.set_cons_succ]
        refine wpStage_ready (rs := [3]) (by kernel_rfl) (by simp) ?_
        refine StageOne.cons (by simp only [List.getElem?_toArray, List.getElem?_cons_succ, List.getElem?_cons_zero]; rfl) (by rfl) (fun K hK => ?_) StageOne.nil -- call func 9
        go_simp
        refine (HS.out _ _ _ hS hm2).mono ?_
        rintro e w5 ⟨a5, c5, rfl, hb5⟩
        have hS2 := hS.call hb5
        have hS5 := hS2
        try have hA := hA.call hb5
        refine hK.out _ _ hS2 (fun hS => ?_)
        clear hK K
        try simp only [Act.put, List.setIfInBounds_toArray, List.set_cons_zero, List.set_cons_succ]
        refine wpStage_free (i := 4) (v := ?_) (by simp only [List.getElem?_toArray, List.getElem?_cons_succ, List.getElem?_cons_zero]; rfl) (by rfl) (by kernel_rfl) (fun _ _ _ h => h) ?_ (.inr hS) ?_ -- move
        rotate_left 1
        · intro w; go_simp; try with_reducible rfl
        try simp only [Act.put, List.setIfInBounds_toArray, List.set_cons_zero, List.set_cons_succ]
        refine wpStage_free (i := 5) (v := ?_) (by simp only [List.getElem?_toArray, List.getElem?_cons_succ, List.getElem?_cons_zero]; rfl) (by rfl) (by kernel_rfl) (fun _ _ _ h => h) ?_ (.inr hS) ?_ -- extract
        rotate_left 1
        · intro w; go_simp; try with_reducible rfl
        try simp only [Act.put, List.setIfInBounds_toArray, List.set_cons_zero, List.set_cons_succ]
        refine wpStage_free (i := 6) (v := ?_) (by simp only [List.getElem?_toArray, List.getElem?_cons_succ, List.getElem?_cons_zero]; rfl) (by rfl) (by kernel_rfl) (fun _ _ _ h => h) ?_ (.inr hS) ?_ -- extract
        rotate_left 1
        · intro w; go_simp; try with_reducible rfl
        try simp only [Act.put, List.setIfInBounds_toArray, List.set_cons_zero, List.set_cons_succ]
        refine wpStage_ready (rs := [8]) (by kernel_rfl) (by simp) ?_
        refine StageOne.late (by simp only [List.getElem?_toArray, List.getElem?_cons_succ, List.getElem?_cons_zero]; rfl) (by rfl) (by kernel_rfl) (fun K hK => ?_) StageOne.nil -- store 
        have hc := hA.loc
        simp only [Loc, Cel, zeroCells, Note.cells, upd, List.modify_succ_cons, List.modify_zero_cons, List.set_cons_zero, List.set_cons_succ, List.not_mem_nil, List.mem_cons, Nat.reduceAdd, Nat.zero_add, or_false, forall_eq_or_imp, forall_eq, false_implies, implies_true, and_true, true_and] at hc
        go_simp
        refine hK.out _ _ ?_
        clear hK K
        try simp only [Act.put, List.setIfInBounds_toArray, List.set_cons_zero, List.set_cons_succ]
        refine wpStage_free (i := 9) (v := ?_) (by simp only [List.getElem?_toArray, List.getElem?_cons_succ, List.getElem?_cons_zero]; rfl) (by rfl) (by kernel_rfl) (fun _ _ _ h => h) ?_ (.inl (by kernel_rfl)) ?_ -- assign
        rotate_left 1
        · intro w; go_simp; try with_reducible rfl
        try simp only [Act.put, List.setIfInBounds_toArray, List.set_cons_zero, List.set_cons_succ]
        refine wpStage_done (by kernel_rfl) (NoPanic.normal ?_) _
        have hk : (m : Int) % 3 = 0 := by have := HH2.out; omega
        go_wp2_with fail
        go_ret
        refine ⟨rfl, ?_⟩
        first | exact HB2.out.trans ((hS5.alloc _ 25).below.mono HB2.out.size) | exact HB2.out.trans ((hA.set (j := 0) (i := 0) rfl (by simp) _).below.mono HB2.out.size)
      exact StageOne.nil

end Go.Proofs.Ytihhncejiahdcab
